/- Gallery: fit's deferred function, the closures that it searches with, the way back, by contracts. -/
import Derived.Test.YtkmocikcohhdoaaF12
import Derived.RecoverIn
import Derived.TacticsInMore
set_option linter.unusedVariables false
set_option linter.unusedSimpArgs false
namespace Go.Proofs.Ytkmocikcohhdoaa
open Go.RowKit Go.Shelf
attribute [local go_sem] Oper.semAt_some
theorem torn_assert (v : Value) (w : World) : (Instr.typeAssert (.iface 137 v) 20 137 true).run Try.prog w = .ok (.tuple #[v, .bool true]) w := by
  simp [Instr.typeAssert, run_underlying Try.underlying137]
set_option maxHeartbeats 4000000 in
set_option maxRecDepth 100000 in
theorem fit1_torn (n p4 p5 : Nat) (q : Int) (v4 v5 : Value) (w : World) (h4 : Bx w p4 [v4]) (h5 : Bx w p5 [v5]) (hne : p4 ≠ p5) :
    CallsDIn Fence.wide n Try.prog 88 #[.pointer (some ⟨p4, 0, none⟩), .pointer (some ⟨p5, 0, none⟩)] (.panicking [{ v := tornV q, recovered := false }]) w fun e u' w' =>
      e = .returned (.tuple #[]) ∧ u' = .panicking [{ v := tornV q, recovered := true }] ∧ Bx w' p4 [.slice none 0 0] ∧ Bx w' p5 [.bool false] ∧ Kept (fun b => b ≠ p4 ∧ b ≠ p5) w w' := by
  have hta := torn_assert
  have l4 := h4.lt
  have l5 := h5.lt
  have hne' : ¬ p5 = p4 := fun e => hne e.symm
  obtain ⟨c4, z4⟩ := h4.w1
  obtain ⟨c5, z5⟩ := h5.w1
  refine callsDIn_of_wpSIn Try.func88 rfl (by trivial) fun c₀ cs hu => ?_
  apply wpSIn_seq
  apply wpSIn_region
  simp [wpOpsSIn, go_sem, recoverD, hu, Try.ntmps88, Exit.thenS, tornV]
  simp only [Array.replicate_succ, Array.replicate_zero, List.push_toArray, List.setIfInBounds_toArray, List.set_cons_succ, List.set_cons_zero, List.append_toArray, List.nil_append, List.cons_append]
  refine wpSIn_of_wpIn rfl ?_
  gi_wp2_with fail
  have hA := (((h4.set (j := 0) (.slice none 0 0) (by simp)).other (q := ⟨p5, 0, none⟩) (.bool false) hne')).alloc (.cells #[.int .i64 q] 137)
  have hB := (((h5.other (q := ⟨p4, 0, none⟩) (.slice none 0 0) hne).set (j := 0) (.bool false) (by simp))).alloc (.cells #[.int .i64 q] 137)
  have hK : Kept (fun b => ¬ b = p4 ∧ ¬ b = p5) w (((w.setCell ⟨p4, 0, none⟩ (.slice none 0 0)).setCell ⟨p5, 0, none⟩ (.bool false)).alloc (.cells #[.int .i64 q] 137)) :=
    (((Kept.setCell w ⟨p4, 0, none⟩ (.slice none 0 0)).mono fun b _ hb => hb.1).trans ((Kept.setCell _ ⟨p5, 0, none⟩ (.bool false)).mono fun b _ hb => hb.2)).trans (Kept.alloc _ _ _)
  simp only [List.set_cons_zero] at hA hB
  simp [bodyPostS, results, Try.results88]
  exact ⟨hA, hB, hK⟩
set_option maxHeartbeats 4000000 in
set_option maxRecDepth 100000 in
theorem fit1_idle (n p4 p5 : Nat) (w : World) :
    CallsDIn Fence.wide n Try.prog 88 #[.pointer (some ⟨p4, 0, none⟩), .pointer (some ⟨p5, 0, none⟩)] .returning w fun e u' w' => e = .returned (.tuple #[]) ∧ u' = .returning ∧ w' = w := by
  refine callsDIn_of_wpSIn Try.func88 rfl (by trivial) fun c₀ cs hu => ?_
  apply wpSIn_seq
  apply wpSIn_region
  simp [wpOpsSIn, go_sem, recoverD, hu, Try.ntmps88, Exit.thenS]
  simp only [Array.replicate_succ, Array.replicate_zero, List.push_toArray, List.setIfInBounds_toArray, List.set_cons_succ, List.set_cons_zero, List.append_toArray, List.nil_append, List.cons_append]
  refine wpSIn_of_wpIn rfl ?_
  gi_wp2_with fail
  cases c₀
  simp_all [bodyPostS, results, Try.results88]
theorem fit2_any (n : Int) (p7 p8 : Nat) (r : Rc) (t : Sp) (w : World) (h7 : At w p7 [.int .i64 r.cap.lo, .int .i64 r.cap.hi, .int .i64 r.leak.lo, .int .i64 r.leak.hi, .int .i64 r.gain.lo, .int .i64 r.gain.hi]) (h8 : At w p8 [.int .i64 t.lo, .int .i64 t.hi]) (hn : 0 ≤ n ∧ n ≤ 13000000) (hr : r.fine) :
    Calls Try.prog 93 #[.int .i64 n, .pointer (some ⟨p7, 0, none⟩), .pointer (some ⟨p8, 0, none⟩)] w fun e w' => e = .returned (.bool (decide (t.lo ≤ mostF r n))) ∧ Below w.heap.size w w' := by
  obtain ⟨⟨f1, f2, f3⟩, ⟨f4, f5, f6⟩, ⟨f7, f8, f9⟩⟩ := hr
  have mb1 : 0 ≤ n ∧ n ≤ 1000000000 := by omega
  have mb2 : 0 ≤ r.cap.hi ∧ r.cap.hi ≤ 1000000000 := by omega
  have mb3 : 0 ≤ r.leak.lo ∧ r.leak.lo ≤ 1000000000 := by omega
  have mb4 : 0 ≤ r.gain.hi ∧ r.gain.hi ≤ 1000000000 := by omega
  clear f1 f2 f3 f4 f5 f6 f7 f8 f9 hn
  go_enter Try.func93, Try.ntmps93
  go_wp2_with fail
  refine wp_region_held_drew (S := (fun W => Below w.heap.size w W)) (by kernel_rfl) (by (try dsimp only); exact (Below.refl _ _).drew) (fun hHeld => ?_)
  generalize World.drew w = Wd1 at hHeld ⊢
  have hbc := Below.refl Wd1.heap.size Wd1
  refine wpAnyH_take (i := 0) (oi := ⟨_, _, _, _, _, _⟩) (v := ?_) rfl (by kernel_rfl) (by kernel_rfl) (by kernel_rfl) (fun _ _ _ h => h) (Or.inl ⟨by rfl, ?_⟩) hHeld ?_
  rotate_left
  · (intro w hSw; (try dsimp only at hSw); obtain ⟨q0, q1⟩ := (h8.below hSw).c2; obtain ⟨z0, z1, z2, z3, z4, z5⟩ := (h7.below hSw).c6; go_simp; try (with_reducible rfl))
  try simp only [Act.put, List.setIfInBounds_toArray, List.set_cons_zero, List.set_cons_succ]
  refine wpAnyH_take (i := 1) (oi := ⟨_, _, _, _, _, _⟩) (v := ?_) rfl (by kernel_rfl) (by kernel_rfl) (by kernel_rfl) (fun _ _ _ h => h) (Or.inl ⟨by rfl, ?_⟩) hHeld ?_
  rotate_left
  · (intro w hSw; (try dsimp only at hSw); go_simp; try (with_reducible rfl))
  try simp only [Act.put, List.setIfInBounds_toArray, List.set_cons_zero, List.set_cons_succ]
  refine wpAnyH_take (i := 3) (oi := ⟨_, _, _, _, _, _⟩) (v := ?_) rfl (by kernel_rfl) (by kernel_rfl) (by kernel_rfl) (fun _ _ _ h => h) (Or.inl ⟨by rfl, ?_⟩) hHeld ?_
  rotate_left
  · (intro w hSw; (try dsimp only at hSw); go_simp; try (with_reducible rfl))
  try simp only [Act.put, List.setIfInBounds_toArray, List.set_cons_zero, List.set_cons_succ]
  refine wpAnyH_take (i := 4) (oi := ⟨_, _, _, _, _, _⟩) (v := ?_) rfl (by kernel_rfl) (by kernel_rfl) (by kernel_rfl) (fun _ _ _ h => h) (Or.inl ⟨by rfl, ?_⟩) hHeld ?_
  rotate_left
  · (intro w hSw; (try dsimp only at hSw); obtain ⟨q0, q1⟩ := (h8.below hSw).c2; obtain ⟨z0, z1, z2, z3, z4, z5⟩ := (h7.below hSw).c6; go_simp; try (with_reducible rfl))
  try simp only [Act.put, List.setIfInBounds_toArray, List.set_cons_zero, List.set_cons_succ]
  refine wpAnyH_ready (rs := [2]) (by kernel_rfl) (by simp) ?_
  refine AllReadyH.cons (o := ⟨_, _, _, _, _, _⟩) rfl (fun K hK => ?_) AllReadyH.nil
  go_simp
  refine (most_any _ _ _ _ _ _ _ _ mb1 mb2 mb3 mb4).mono ?_
  rintro e V7 ⟨rfl, hb⟩
  go_wp2_with fail
  have hHeldN := hHeld.trans (hb.mono hHeld.size)
  have hbc := hbc.trans (hb.mono hbc.size)
  refine hK.out _ _ ?_ (fun hHeld2 => ?_)
  · exact hHeldN
  clear hK K hHeld hHeldN hb; have hHeld := hHeld2; clear hHeld2
  try simp only [Act.put, List.setIfInBounds_toArray, List.set_cons_zero, List.set_cons_succ]
  refine wpAnyH_take (i := 5) (oi := ⟨_, _, _, _, _, _⟩) (v := ?_) rfl (by kernel_rfl) (by kernel_rfl) (by kernel_rfl) (fun _ _ _ h => h) (Or.inl ⟨by rfl, ?_⟩) hHeld ?_
  rotate_left
  · (intro w hSw; (try dsimp only at hSw); go_simp; try (with_reducible rfl))
  try simp only [Act.put, List.setIfInBounds_toArray, List.set_cons_zero, List.set_cons_succ]
  refine wpAnyH_take (i := 6) (oi := ⟨_, _, _, _, _, _⟩) (v := ?_) rfl (by kernel_rfl) (by kernel_rfl) (by kernel_rfl) (fun _ _ _ h => h) (Or.inl ⟨by rfl, ?_⟩) hHeld ?_
  rotate_left
  · (intro w hSw; (try dsimp only at hSw); go_simp; try (with_reducible rfl))
  try simp only [Act.put, List.setIfInBounds_toArray, List.set_cons_zero, List.set_cons_succ]
  refine wpAnyH_done (by kernel_rfl) ?_ _
  go_wp2_with fail
  go_ret
  exact ⟨rfl, hHeld⟩
theorem fit3_any (n : Int) (p7 p8 : Nat) (r : Rc) (t : Sp) (w : World) (h7 : At w p7 [.int .i64 r.cap.lo, .int .i64 r.cap.hi, .int .i64 r.leak.lo, .int .i64 r.leak.hi, .int .i64 r.gain.lo, .int .i64 r.gain.hi]) (h8 : At w p8 [.int .i64 t.lo, .int .i64 t.hi]) (hn : 0 ≤ n ∧ n ≤ 13000000) (hr : r.fine) :
    Calls Try.prog 94 #[.int .i64 n, .pointer (some ⟨p7, 0, none⟩), .pointer (some ⟨p8, 0, none⟩)] w fun e w' => e = .returned (.bool (decide (t.hi < leastF r n))) ∧ Below w.heap.size w w' := by
  obtain ⟨⟨f1, f2, f3⟩, ⟨f4, f5, f6⟩, ⟨f7, f8, f9⟩⟩ := hr
  have mb1 : 0 ≤ n ∧ n ≤ 1000000000 := by omega
  have mb2 : 0 ≤ r.cap.lo ∧ r.cap.lo ≤ 1000000000 := by omega
  have mb3 : 0 ≤ r.leak.hi ∧ r.leak.hi ≤ 1000000000 := by omega
  have mb4 : 0 ≤ r.gain.lo ∧ r.gain.lo ≤ 1000000000 := by omega
  clear f1 f2 f3 f4 f5 f6 f7 f8 f9 hn
  go_enter Try.func94, Try.ntmps94
  go_wp2_with fail
  refine wp_region_held_drew (S := (fun W => Below w.heap.size w W)) (by kernel_rfl) (by (try dsimp only); exact (Below.refl _ _).drew) (fun hHeld => ?_)
  generalize World.drew w = Wd1 at hHeld ⊢
  have hbc := Below.refl Wd1.heap.size Wd1
  refine wpAnyH_take (i := 0) (oi := ⟨_, _, _, _, _, _⟩) (v := ?_) rfl (by kernel_rfl) (by kernel_rfl) (by kernel_rfl) (fun _ _ _ h => h) (Or.inl ⟨by rfl, ?_⟩) hHeld ?_
  rotate_left
  · (intro w hSw; (try dsimp only at hSw); obtain ⟨q0, q1⟩ := (h8.below hSw).c2; obtain ⟨z0, z1, z2, z3, z4, z5⟩ := (h7.below hSw).c6; go_simp; try (with_reducible rfl))
  try simp only [Act.put, List.setIfInBounds_toArray, List.set_cons_zero, List.set_cons_succ]
  refine wpAnyH_take (i := 1) (oi := ⟨_, _, _, _, _, _⟩) (v := ?_) rfl (by kernel_rfl) (by kernel_rfl) (by kernel_rfl) (fun _ _ _ h => h) (Or.inl ⟨by rfl, ?_⟩) hHeld ?_
  rotate_left
  · (intro w hSw; (try dsimp only at hSw); go_simp; try (with_reducible rfl))
  try simp only [Act.put, List.setIfInBounds_toArray, List.set_cons_zero, List.set_cons_succ]
  refine wpAnyH_take (i := 3) (oi := ⟨_, _, _, _, _, _⟩) (v := ?_) rfl (by kernel_rfl) (by kernel_rfl) (by kernel_rfl) (fun _ _ _ h => h) (Or.inl ⟨by rfl, ?_⟩) hHeld ?_
  rotate_left
  · (intro w hSw; (try dsimp only at hSw); go_simp; try (with_reducible rfl))
  try simp only [Act.put, List.setIfInBounds_toArray, List.set_cons_zero, List.set_cons_succ]
  refine wpAnyH_take (i := 4) (oi := ⟨_, _, _, _, _, _⟩) (v := ?_) rfl (by kernel_rfl) (by kernel_rfl) (by kernel_rfl) (fun _ _ _ h => h) (Or.inl ⟨by rfl, ?_⟩) hHeld ?_
  rotate_left
  · (intro w hSw; (try dsimp only at hSw); obtain ⟨q0, q1⟩ := (h8.below hSw).c2; obtain ⟨z0, z1, z2, z3, z4, z5⟩ := (h7.below hSw).c6; go_simp; try (with_reducible rfl))
  try simp only [Act.put, List.setIfInBounds_toArray, List.set_cons_zero, List.set_cons_succ]
  refine wpAnyH_ready (rs := [2]) (by kernel_rfl) (by simp) ?_
  refine AllReadyH.cons (o := ⟨_, _, _, _, _, _⟩) rfl (fun K hK => ?_) AllReadyH.nil
  go_simp
  refine (least_any _ _ _ _ _ _ _ _ mb1 mb2 mb3 mb4).mono ?_
  rintro e V7 ⟨rfl, hb⟩
  go_wp2_with fail
  have hHeldN := hHeld.trans (hb.mono hHeld.size)
  have hbc := hbc.trans (hb.mono hbc.size)
  refine hK.out _ _ ?_ (fun hHeld2 => ?_)
  · exact hHeldN
  clear hK K hHeld hHeldN hb; have hHeld := hHeld2; clear hHeld2
  try simp only [Act.put, List.setIfInBounds_toArray, List.set_cons_zero, List.set_cons_succ]
  refine wpAnyH_take (i := 5) (oi := ⟨_, _, _, _, _, _⟩) (v := ?_) rfl (by kernel_rfl) (by kernel_rfl) (by kernel_rfl) (fun _ _ _ h => h) (Or.inl ⟨by rfl, ?_⟩) hHeld ?_
  rotate_left
  · (intro w hSw; (try dsimp only at hSw); go_simp; try (with_reducible rfl))
  try simp only [Act.put, List.setIfInBounds_toArray, List.set_cons_zero, List.set_cons_succ]
  refine wpAnyH_take (i := 6) (oi := ⟨_, _, _, _, _, _⟩) (v := ?_) rfl (by kernel_rfl) (by kernel_rfl) (by kernel_rfl) (fun _ _ _ h => h) (Or.inl ⟨by rfl, ?_⟩) hHeld ?_
  rotate_left
  · (intro w hSw; (try dsimp only at hSw); go_simp; try (with_reducible rfl))
  try simp only [Act.put, List.setIfInBounds_toArray, List.set_cons_zero, List.set_cons_succ]
  refine wpAnyH_done (by kernel_rfl) ?_ _
  go_wp2_with fail
  go_ret
  exact ⟨rfl, hHeld⟩
theorem enters_fit2 : ∀ args w, (callFunc 93 args).run Try.prog w = .ok (.enter 93 args) w := enters_of Try.func93 (by kernel_rfl) rfl
theorem enters_fit3 : ∀ args w, (callFunc 94 args).run Try.prog w = .ok (.enter 94 args) w := enters_of Try.func94 (by kernel_rfl) rfl
theorem enters_down1 : ∀ args w, (callFunc 105 args).run Try.prog w = .ok (.enter 105 args) w := enters_of Try.func105 (by kernel_rfl) rfl
theorem down_fn (Aa Ar : Option Addr) (n m ca cr : Nat) (lo hi : Int) (w : World) :
    Calls Try.prog 90 #[.agg #[.slice Aa n ca, .slice Ar m cr], .agg #[.int .i64 lo, .int .i64 hi]] w fun e w' => e = .returned (.func (.func 105) #[] #[.pointer (some ⟨w.heap.size + 1, 0, none⟩), .pointer (some ⟨w.heap.size, 0, none⟩)]) ∧ w' = (w.alloc (.cells #[.slice Aa n ca, .slice Ar m cr] 115)).alloc (.cells #[.int .i64 lo, .int .i64 hi] 24) := by
  go_enter Try.func90, Try.ntmps90
  go_wp2
  go_ret
  exact ⟨rfl, rfl⟩
theorem back_fn (Aa : Option Addr) (n ca : Nat) (w : World) :
    Calls Try.prog 91 #[.slice Aa n ca] w fun e w' => e = .returned (.func (.func 106) #[] #[.pointer (some ⟨w.heap.size, 0, none⟩)]) ∧ w' = w.alloc (.cells #[.slice Aa n ca] 113) := by
  go_enter Try.func91, Try.ntmps91
  go_wp2
  go_ret
  exact ⟨rfl, rfl⟩
end Go.Proofs.Ytkmocikcohhdoaa
