/- SaltExamples: the chapter's examples, limits and numbers of errors hold: the law returns true. No input, no conditions. -/
import Derived.Test.YtmbhnjpaieimbaaPBH
import Derived.Test.YtmbhnjpaieimbaaZA
import Derived.Test.YtmbhnjpaieimbaaOpenC
import Derived.Carry
import Derived.Deep.Cut
set_option linter.unusedVariables false
set_option linter.unusedSimpArgs false
namespace Go.Proofs.Ytmbhnjpaieimbaa
open Go.RowKit Go.Shelf Go.WideShapes Go.ChangeShapes Go.ChangeAt
attribute [local go_sem ↓] Go.wp_at_zero Go.wp_at_succ
theorem make_canal (w : World) : (Instr.makeSlice 40 (.int .i64 1) (.int .i64 1)).run Try.prog w = .ok (.slice (some ⟨w.heap.size, 0, none⟩) 1 1) (w.alloc (.cells #[.int .i64 0, .int .i64 0, .int .i64 0, .int .i64 0, .int .i64 0] 127)) := by kernel_rfl
attribute [local go_sem] make_canal
theorem NetAt.bel {w w' : World} {Ac Af : Option Addr} {nc nf : Nat} {cs : List Ca} {fs : List Int} (h : NetAt w Ac Af nc nf cs fs) (hb : Below w.heap.size w w') : NetAt w' Ac Af nc nf cs fs := h.below hb
def so0 : So := ⟨⟨5000, 6000⟩, 6000, 10000, ⟨100, 200⟩, ⟨900, 1000⟩, ⟨0, 300⟩⟩
def so1 : So := ⟨⟨5000, 6000⟩, 6000, 10000, ⟨100, 200⟩, ⟨200, 1000⟩, ⟨0, 300⟩⟩
def ca0 : Ca := ⟨0, ⟨0, 0⟩, ⟨0, 0⟩⟩
theorem need_weak : needF ⟨⟨5000, 6000⟩, 6000, 10000, ⟨100, 200⟩, ⟨200, 1000⟩, ⟨0, 300⟩⟩ = (0, 6) := by kernel_rfl
theorem wants_ex0 {o : List Int} {i e : Int} (h : wantsP [ca0] [1] 0 16 1 1 [so0] o i e) : o = [13286] ∧ i = 0 ∧ e = 0 := by
  refine wantsP_one h ?_
  unfold wantsP
  rw [if_pos (by decide), if_pos (by decide), if_pos (by decide)]
  refine .inl ⟨WOk.nil.snoc (s := so0) (n := 13286) (r := 13286) rfl need_ex ?_, rfl, rfl⟩
  unfold minutesP leastB
  rw [if_pos (by decide), if_pos (by decide), if_pos (by decide)]
  exact .inr ⟨rfl, by decide, by decide, by decide, .inr (by decide)⟩
theorem wants_ex1 {o : List Int} {i e : Int} (h : wantsP [ca0] [1] 0 16 1 1 [so1] o i e) : o = [] ∧ i = 0 ∧ e = 6 := by
  refine wantsP_one h ?_
  unfold wantsP
  rw [if_pos (by decide), if_pos (by decide), if_pos (by decide)]
  exact .inr ⟨0, [], rfl, rfl, rfl, WOk.nil, so1, rfl, .inl (by rw [show needF so1 = (0, 6) from need_weak])⟩
theorem wants_ex2 {o : List Int} {i e : Int} (h : wantsP [ca0] [1] 0 16 1 1 [] o i e) : o = [] ∧ i = 0 ∧ e = 61 := by
  refine wantsP_one h ?_
  unfold wantsP
  rw [if_pos (by decide), if_pos (by decide), if_neg (by decide)]
  exact ⟨rfl, rfl, rfl⟩
theorem wants_ex3 {o : List Int} {i e : Int} (h : wantsP [ca0] [1] 0 16 2 1 [] o i e) : o = [] ∧ i = 0 ∧ e = 21 := by
  refine wantsP_one h ?_
  unfold wantsP
  rw [if_pos (by decide), if_neg (by decide)]
  exact ⟨rfl, rfl, rfl⟩
theorem wants_ex4 {o : List Int} {i e : Int} (h : wantsP [] [] 0 0 2 1 [] o i e) : o = [] ∧ i = 0 ∧ e = 50 := by
  refine wantsP_one h ?_
  unfold wantsP
  rw [if_neg (by decide)]
  exact ⟨rfl, rfl, rfl⟩
theorem plan_lack (A1 A2 : Option Addr) (c1 c2 : Nat) : planF [30, 20, 10] (exR 25 A1 A2 c1 c2) = ([], 0, 63) := by kernel_rfl
theorem lack_none (A1 A2 : Option Addr) (c1 c2 : Nat) : lackF [30, 20, 10] (exR 40 A1 A2 c1 c2) = ([], 6) := by kernel_rfl
theorem plan_bad : planF [-1] [] = ([], 0, 62) := by kernel_rfl
theorem after_bad1 : afterE ⟨⟨5000, 6000⟩, 6000, 10000, ⟨100, 200⟩, ⟨900, 1000⟩, ⟨0, 300⟩⟩ ⟨2, 1⟩ 1 = 2 := by kernel_rfl
theorem after_bad2 : afterE ⟨⟨5000, 6000⟩, 6000, 10000, ⟨100, 200⟩, ⟨900, 1000⟩, ⟨0, 300⟩⟩ ⟨1, 1⟩ 101 = 2 := by kernel_rfl
theorem check_bad : soCheck ⟨⟨0, 0⟩, -1, 0, ⟨0, 0⟩, ⟨0, 0⟩, ⟨0, 0⟩⟩ = 60 := by kernel_rfl
set_option maxHeartbeats 40000000 in
set_option maxRecDepth 100000 in
theorem sexamples_walk (w : World) : Calls Try.prog 12 #[] w fun e w' => e = .returned (.bool true) ∧ Below w.heap.size w w' := by
  go_enter Try.func12, Try.ntmps12
  go_wp2_with fail
  refine (salive_any _).mono ?_
  rintro e w1 ⟨rfl, hB⟩
  go_wp2_with fail
  refine (sfield_any _).mono ?_
  rintro e w2 ⟨rfl, hb⟩
  replace hB := hB.trans (hb.mono hB.size)
  clear hb
  obtain ⟨b1, v1, e1, ev1, hx1, hb1, hz1⟩ := mk_bx w2 #[.int .i64 5000, .int .i64 6000, .int .i64 6000, .int .i64 10000, .int .i64 100, .int .i64 200, .int .i64 200, .int .i64 1000, .int .i64 0, .int .i64 300] 25
  obtain ⟨b2, v2, e2, ev2, r2, hb2⟩ := mk_row (cells := Ca.cells) v1 #[.int .i64 0, .int .i64 0, .int .i64 0, .int .i64 0, .int .i64 0] 127 [ca0] rfl
  obtain ⟨b3, v3, e3, ev3, r3, hb3⟩ := mk_row (cells := icell) v2 #[.int .i64 1] 3 [1] rfl
  obtain ⟨b4, v4, e4, ev4, hx4, hb4, hz4⟩ := mk_bx v3 #[.slice (some ⟨b2, 0, none⟩) 1 1, .slice (some ⟨b3, 0, none⟩) 1 1, .int .i64 0, .int .i64 16] 43
  have e12 : b1 + 1 = b2 := by rw [← e2.out, ← ev1.out, ← e1.out]; simp
  have e23 : b2 + 1 = b3 := by rw [← e3.out, ← ev2.out, ← e2.out]; simp
  have e34 : b3 + 1 = b4 := by rw [← e4.out, ← ev3.out, ← e3.out]; simp
  go_wp2_with fail
  rw [ev1.out, e1.out, ev2.out, e12, ev3.out, e23, ev4.out, e34]
  have hB4 := hide (hB.trans ((((hb1.trans (hb2.mono hb1.size)).trans (hb3.mono (hb1.trans (hb2.mono hb1.size)).size)).trans (hb4.mono ((hb1.trans (hb2.mono hb1.size)).trans (hb3.mono (hb1.trans (hb2.mono hb1.size)).size)).size)).mono hB.size))
  have n4 : NetAt v4 (some ⟨b2, 0, none⟩) (some ⟨b3, 0, none⟩) 1 1 [ca0] [1] := ⟨(r2.bel hb3).bel hb4, r3.bel hb4, rfl, rfl, by decide, by decide⟩
  have hx1' := ((hx1.bel hb2).bel hb3).bel hb4
  have Hx1 := hide hx1'; have Hx4 := hide hx4; have N4 := hide n4
  clear e1 ev1 hx1 hb1 hz1 e2 ev2 r2 hb2 e3 ev3 r3 hb3 e4 ev4 hb4 hz4 e12 e23 e34 hB hx1' hx4
  have hB := hB4.out
  have x1 := Hx1.out; have x4 := Hx4.out
  refine wp_region_held_drew (S := (fun W => Below v4.heap.size v4 W)) (by kernel_rfl) (by (try dsimp only); exact (Below.refl _ _).drew) (fun hHeld => ?_)
  generalize World.drew v4 = Wd6 at hHeld ⊢
  have n4 := n4.bel hHeld
  have hbc := Below.refl Wd6.heap.size Wd6
  refine wpAnyH_take (i := 0) (oi := ⟨_, _, _, _, _, _⟩) (v := ?_) rfl (by kernel_rfl) (by kernel_rfl) (by kernel_rfl) (fun _ _ _ h => h) (Or.inl ⟨by rfl, ?_⟩) hHeld ?_
  rotate_left
  · (intro w hSw; (try dsimp only at hSw); obtain ⟨q0, q1, q2, q3⟩ := (Hx4.out.bel hSw).at_.c4; obtain ⟨p0, p1, p2, p3, p4, p5, p6, p7, p8, p9⟩ := (Hx1.out.bel hSw).at_.c10; go_simp; try (with_reducible rfl))
  try simp only [Act.put, List.setIfInBounds_toArray, List.set_cons_zero, List.set_cons_succ]
  refine wpAnyH_ready (rs := [1]) (by kernel_rfl) (by simp) ?_
  refine AllReadyH.cons (o := ⟨_, _, _, _, _, _⟩) rfl (fun K hK => ?_) AllReadyH.nil
  go_simp
  refine (sspan_any _ _ _).mono ?_
  rintro e V39 ⟨rfl, hb⟩
  go_wp2_with fail
  have hHeldN := hHeld.trans (hb.mono hHeld.size)
  have n4 := n4.bel hb
  have hbc := hbc.trans (hb.mono hbc.size)
  refine hK.out _ _ ?_ (fun hHeld2 => ?_)
  · exact hHeldN
  clear hK K hHeld hHeldN hb; have hHeld := hHeld2; clear hHeld2
  try simp only [Act.put, List.setIfInBounds_toArray, List.set_cons_zero, List.set_cons_succ]
  refine wpAnyH_ready (rs := [2]) (by kernel_rfl) (by simp) ?_
  refine AllReadyH.cons (o := ⟨_, _, _, _, _, _⟩) rfl (fun K hK => ?_) AllReadyH.nil
  go_simp
  refine (sfield_any _).mono ?_
  rintro e V40 ⟨rfl, hb⟩
  go_wp2_with fail
  have hHeldN := hHeld.trans (hb.mono hHeld.size)
  have n4 := n4.bel hb
  have hbc := hbc.trans (hb.mono hbc.size)
  refine hK.out _ _ ?_ (fun hHeld2 => ?_)
  · exact hHeldN
  clear hK K hHeld hHeldN hb; have hHeld := hHeld2; clear hHeld2
  try simp only [Act.put, List.setIfInBounds_toArray, List.set_cons_zero, List.set_cons_succ]
  refine wpAnyH_ready (rs := [3]) (by kernel_rfl) (by simp) ?_
  refine AllReadyH.cons (o := ⟨_, _, _, _, _, _⟩) rfl (fun K hK => ?_) AllReadyH.nil
  go_simp
  obtain ⟨b41, V41, eb41, ev41, r41, hb⟩ := mk_row (cells := So.cells) V40 #[.int .i64 5000, .int .i64 6000, .int .i64 6000, .int .i64 10000, .int .i64 100, .int .i64 200, .int .i64 900, .int .i64 1000, .int .i64 0, .int .i64 300] 25 [so0] rfl
  rw [ev41.out, eb41.out]
  have hHeldN := hHeld.trans (hb.mono hHeld.size)
  have n4 := n4.bel hb
  have hbc := hbc.trans (hb.mono hbc.size)
  refine hK.out _ _ ?_ (fun hHeld2 => ?_)
  · exact hHeldN
  clear hK K hHeld hHeldN hb; have hHeld := hHeld2; clear hHeld2
  try simp only [Act.put, List.setIfInBounds_toArray, List.set_cons_zero, List.set_cons_succ]
  refine wpAnyH_ready (rs := [4]) (by kernel_rfl) (by simp) ?_
  refine AllReadyH.cons (o := ⟨_, _, _, _, _, _⟩) rfl (fun K hK => ?_) AllReadyH.nil
  go_simp
  refine (wants_fn _ _ _ _ _ _ _ _ _ _ _ _ _ [ca0] [1] [so0] _ n4 rfl (by decide) r41).mono ?_
  rintro e V42 ⟨v, out, i, er, rfl, ho, hw, hb⟩
  obtain ⟨rfl, rfl, rfl⟩ := wants_ex0 hw
  obtain ⟨A42, c42, rfl, m42⟩ := ho.rdn 1 rfl
  clear ho hw
  go_wp2_with fail
  have hHeldN := hHeld.trans (hb.mono hHeld.size)
  have n4 := n4.bel hb
  have r41 := r41.bel hb
  have hbc := hbc.trans (hb.mono hbc.size)
  refine hK.out _ _ ?_ (fun hHeld2 => ?_)
  · exact hHeldN
  clear hK K hHeld hHeldN hb; have hHeld := hHeld2; clear hHeld2
  try simp only [Act.put, List.setIfInBounds_toArray, List.set_cons_zero, List.set_cons_succ]
  refine wpAnyH_take (i := 5) (oi := ⟨_, _, _, _, _, _⟩) (v := ?_) rfl (by kernel_rfl) (by kernel_rfl) (by kernel_rfl) (fun _ _ _ h => h) (Or.inl ⟨by rfl, ?_⟩) hHeld ?_
  rotate_left
  · (intro w hSw; (try dsimp only at hSw); go_simp; try (with_reducible rfl))
  try simp only [Act.put, List.setIfInBounds_toArray, List.set_cons_zero, List.set_cons_succ]
  refine wpAnyH_take (i := 6) (oi := ⟨_, _, _, _, _, _⟩) (v := ?_) rfl (by kernel_rfl) (by kernel_rfl) (by kernel_rfl) (fun _ _ _ h => h) (Or.inl ⟨by rfl, ?_⟩) hHeld ?_
  rotate_left
  · (intro w hSw; (try dsimp only at hSw); go_simp; try (with_reducible rfl))
  try simp only [Act.put, List.setIfInBounds_toArray, List.set_cons_zero, List.set_cons_succ]
  refine wpAnyH_take (i := 7) (oi := ⟨_, _, _, _, _, _⟩) (v := ?_) rfl (by kernel_rfl) (by kernel_rfl) (by kernel_rfl) (fun _ _ _ h => h) (Or.inl ⟨by rfl, ?_⟩) hHeld ?_
  rotate_left
  · (intro w hSw; (try dsimp only at hSw); go_simp; try (with_reducible rfl))
  try simp only [Act.put, List.setIfInBounds_toArray, List.set_cons_zero, List.set_cons_succ]
  refine wpAnyH_take (i := 8) (oi := ⟨_, _, _, _, _, _⟩) (v := ?_) rfl (by kernel_rfl) (by kernel_rfl) (by kernel_rfl) (fun _ _ _ h => h) (Or.inl ⟨by rfl, ?_⟩) hHeld ?_
  rotate_left
  · (intro w hSw; (try dsimp only at hSw); go_simp; try (with_reducible rfl))
  try simp only [Act.put, List.setIfInBounds_toArray, List.set_cons_zero, List.set_cons_succ]
  refine wpAnyH_take (i := 9) (oi := ⟨_, _, _, _, _, _⟩) (v := ?_) rfl (by kernel_rfl) (by kernel_rfl) (by kernel_rfl) (fun _ _ _ h => h) (Or.inl ⟨by rfl, ?_⟩) hHeld ?_
  rotate_left
  · (intro w hSw; (try dsimp only at hSw); go_simp; try (with_reducible rfl))
  try simp only [Act.put, List.setIfInBounds_toArray, List.set_cons_zero, List.set_cons_succ]
  refine wpAnyH_take (i := 10) (oi := ⟨_, _, _, _, _, _⟩) (v := ?_) rfl (by kernel_rfl) (by kernel_rfl) (by kernel_rfl) (fun _ _ _ h => h) (Or.inl ⟨by rfl, ?_⟩) hHeld ?_
  rotate_left
  · (intro w hSw; (try dsimp only at hSw); go_simp; try (with_reducible rfl))
  try simp only [Act.put, List.setIfInBounds_toArray, List.set_cons_zero, List.set_cons_succ]
  refine wpAnyH_take (i := 11) (oi := ⟨_, _, _, _, _, _⟩) (v := ?_) rfl (by kernel_rfl) (by kernel_rfl) (by kernel_rfl) (fun _ _ _ h => h) (Or.inl ⟨by rfl, ?_⟩) hHeld ?_
  rotate_left
  · (intro w hSw; (try dsimp only at hSw); go_simp; try (with_reducible rfl))
  try simp only [Act.put, List.setIfInBounds_toArray, List.set_cons_zero, List.set_cons_succ]
  refine wpAnyH_done (by kernel_rfl) ?_ _
  replace hB := hB.trans (hHeld.mono hB.size)
  replace x1 := x1.bel hHeld; replace x4 := x4.bel hHeld
  clear hbc hHeld Hx1 Hx4
  have Hx1 := hide x1; have Hx4 := hide x4
  go_wp2_with fail
  refine wp_region_held_drew (S := (fun W => Below V42.heap.size V42 W)) (by kernel_rfl) (by (try dsimp only); exact (Below.refl _ _).drew) (fun hHeld => ?_)
  generalize World.drew V42 = Wd7 at hHeld ⊢
  have n4 := n4.bel hHeld
  have m42 := m42.bel hHeld
  have hbc := Below.refl Wd7.heap.size Wd7
  refine wpAnyH_take (i := 0) (oi := ⟨_, _, _, _, _, _⟩) (v := ?_) rfl (by kernel_rfl) (by kernel_rfl) (by kernel_rfl) (fun _ _ _ h => h) (Or.inl ⟨by rfl, ?_⟩) hHeld ?_
  rotate_left
  · (intro w hSw; (try dsimp only at hSw); obtain ⟨q0, q1, q2, q3⟩ := (Hx4.out.bel hSw).at_.c4; obtain ⟨p0, p1, p2, p3, p4, p5, p6, p7, p8, p9⟩ := (Hx1.out.bel hSw).at_.c10; go_simp; try (with_reducible rfl))
  try simp only [Act.put, List.setIfInBounds_toArray, List.set_cons_zero, List.set_cons_succ]
  refine wpAnyH_take (i := 2) (oi := ⟨_, _, _, _, _, _⟩) (v := ?_) rfl (by kernel_rfl) (by kernel_rfl) (by kernel_rfl) (fun _ _ _ h => h) (Or.inl ⟨by rfl, ?_⟩) hHeld ?_
  rotate_left
  · (intro w hSw; (try dsimp only at hSw); obtain ⟨q0, q1, q2, q3⟩ := (Hx4.out.bel hSw).at_.c4; obtain ⟨p0, p1, p2, p3, p4, p5, p6, p7, p8, p9⟩ := (Hx1.out.bel hSw).at_.c10; go_simp; try (with_reducible rfl))
  try simp only [Act.put, List.setIfInBounds_toArray, List.set_cons_zero, List.set_cons_succ]
  refine cut1 (C := fun (b50 : Nat) (Wc7_1 : World) => (Rd Wc7_1 Wc7_1.heap.size So.cells (some ⟨b50, 0, none⟩) [so1]) ∧ Below Wd7.heap.size Wd7 Wc7_1 ∧ Below V42.heap.size V42 Wc7_1) (G := ?_) ?_ ?_
  rotate_left
  · intro hCut
    replace hbc := Below.refl Wd7.heap.size Wd7
    refine wpAnyH_ready (rs := [1, 3]) (by kernel_rfl) (by simp) ?_
    refine AllReadyH.cons (o := ⟨_, _, _, _, _, _⟩) rfl (fun K hK => ?_) ?_
    ·
      go_simp
      refine (sspan_any _ _ _).mono ?_
      rintro e V48 ⟨rfl, hb⟩
      go_wp2_with fail
      have hHeldN := hHeld.trans (hb.mono hHeld.size)
      have n4 := n4.bel hb
      have m42 := m42.bel hb
      have hbc := hbc.trans (hb.mono hbc.size)
      refine hK.out _ _ ?_ (fun hHeld2 => ?_)
      · exact hHeldN
      clear hK K hHeldN hb; have hHeld := hHeld2; clear hHeld2
      try simp only [Act.put, List.setIfInBounds_toArray, List.set_cons_zero, List.set_cons_succ]
      refine wpAnyH_ready (rs := [3]) (by kernel_rfl) (by simp) ?_
      refine AllReadyH.cons (o := ⟨_, _, _, _, _, _⟩) rfl (fun K hK => ?_) AllReadyH.nil
      go_simp
      obtain ⟨b50, V50, eb50, ev50, r50, hb⟩ := mk_row (cells := So.cells) V48 #[.int .i64 5000, .int .i64 6000, .int .i64 6000, .int .i64 10000, .int .i64 100, .int .i64 200, .int .i64 200, .int .i64 1000, .int .i64 0, .int .i64 300] 25 [so1] rfl
      rw [ev50.out, eb50.out]
      have hHeldN := hHeld.trans (hb.mono hHeld.size)
      have n4 := n4.bel hb
      have m42 := m42.bel hb
      have hbc := hbc.trans (hb.mono hbc.size)
      refine hK.out _ _ ?_ (fun hHeld2 => ?_)
      · exact hHeldN
      clear hK K hHeldN hb; have hHeld := hHeld2; clear hHeld2
      try simp only [Act.put, List.setIfInBounds_toArray, List.set_cons_zero, List.set_cons_succ]
      exact hCut b50 V50 ⟨r50, hbc, hHeld⟩
    refine AllReadyH.cons (o := ⟨_, _, _, _, _, _⟩) rfl (fun K hK => ?_) AllReadyH.nil
    go_simp
    obtain ⟨b50, V50, eb50, ev50, r50, hb⟩ := mk_row (cells := So.cells) Wd7 #[.int .i64 5000, .int .i64 6000, .int .i64 6000, .int .i64 10000, .int .i64 100, .int .i64 200, .int .i64 200, .int .i64 1000, .int .i64 0, .int .i64 300] 25 [so1] rfl
    rw [ev50.out, eb50.out]
    have hHeldN := hHeld.trans (hb.mono hHeld.size)
    have n4 := n4.bel hb
    have m42 := m42.bel hb
    have hbc := hbc.trans (hb.mono hbc.size)
    refine hK.out _ _ ?_ (fun hHeld2 => ?_)
    · exact hHeldN
    clear hK K hHeldN hb; have hHeld := hHeld2; clear hHeld2
    try simp only [Act.put, List.setIfInBounds_toArray, List.set_cons_zero, List.set_cons_succ]
    refine wpAnyH_ready (rs := [1]) (by kernel_rfl) (by simp) ?_
    refine AllReadyH.cons (o := ⟨_, _, _, _, _, _⟩) rfl (fun K hK => ?_) AllReadyH.nil
    go_simp
    refine (sspan_any _ _ _).mono ?_
    rintro e V48 ⟨rfl, hb⟩
    go_wp2_with fail
    have hHeldN := hHeld.trans (hb.mono hHeld.size)
    have n4 := n4.bel hb
    have m42 := m42.bel hb
    have r50 := r50.bel hb
    have hbc := hbc.trans (hb.mono hbc.size)
    refine hK.out _ _ ?_ (fun hHeld2 => ?_)
    · exact hHeldN
    clear hK K hHeldN hb; have hHeld := hHeld2; clear hHeld2
    try simp only [Act.put, List.setIfInBounds_toArray, List.set_cons_zero, List.set_cons_succ]
    exact hCut b50 V48 ⟨r50, hbc, hHeld⟩
  intro b50 Wc7_1 ⟨r50, hbN, hHeldN⟩
  have n4 := n4.bel hbN
  have m42 := m42.bel hbN
  have hbc := hbc.trans (hbN.mono hbc.size); clear hHeld hbN; have hHeld := hHeldN; clear hHeldN
  refine wpAnyH_ready (rs := [4]) (by kernel_rfl) (by simp) ?_
  refine AllReadyH.cons (o := ⟨_, _, _, _, _, _⟩) rfl (fun K hK => ?_) AllReadyH.nil
  go_simp
  refine (wants_fn _ _ _ _ _ _ _ _ _ _ _ _ _ [ca0] [1] [so1] _ n4 rfl (by decide) r50).mono ?_
  rintro e V51 ⟨v, out, i, er, rfl, ho, hw, hb⟩
  obtain ⟨rfl, rfl, rfl⟩ := wants_ex1 hw
  obtain ⟨A51, c51, rfl, m51⟩ := ho.rdn 0 rfl
  clear ho hw
  go_wp2_with fail
  have hHeldN := hHeld.trans (hb.mono hHeld.size)
  have n4 := n4.bel hb
  have m42 := m42.bel hb
  have r50 := r50.bel hb
  have hbc := hbc.trans (hb.mono hbc.size)
  refine hK.out _ _ ?_ (fun hHeld2 => ?_)
  · exact hHeldN
  clear hK K hHeld hHeldN hb; have hHeld := hHeld2; clear hHeld2
  try simp only [Act.put, List.setIfInBounds_toArray, List.set_cons_zero, List.set_cons_succ]
  refine wpAnyH_take (i := 5) (oi := ⟨_, _, _, _, _, _⟩) (v := ?_) rfl (by kernel_rfl) (by kernel_rfl) (by kernel_rfl) (fun _ _ _ h => h) (Or.inl ⟨by rfl, ?_⟩) hHeld ?_
  rotate_left
  · (intro w hSw; (try dsimp only at hSw); go_simp; try (with_reducible rfl))
  try simp only [Act.put, List.setIfInBounds_toArray, List.set_cons_zero, List.set_cons_succ]
  refine wpAnyH_take (i := 6) (oi := ⟨_, _, _, _, _, _⟩) (v := ?_) rfl (by kernel_rfl) (by kernel_rfl) (by kernel_rfl) (fun _ _ _ h => h) (Or.inl ⟨by rfl, ?_⟩) hHeld ?_
  rotate_left
  · (intro w hSw; (try dsimp only at hSw); go_simp; try (with_reducible rfl))
  try simp only [Act.put, List.setIfInBounds_toArray, List.set_cons_zero, List.set_cons_succ]
  refine wpAnyH_take (i := 7) (oi := ⟨_, _, _, _, _, _⟩) (v := ?_) rfl (by kernel_rfl) (by kernel_rfl) (by kernel_rfl) (fun _ _ _ h => h) (Or.inl ⟨by rfl, ?_⟩) hHeld ?_
  rotate_left
  · (intro w hSw; (try dsimp only at hSw); go_simp; try (with_reducible rfl))
  try simp only [Act.put, List.setIfInBounds_toArray, List.set_cons_zero, List.set_cons_succ]
  refine wpAnyH_take (i := 8) (oi := ⟨_, _, _, _, _, _⟩) (v := ?_) rfl (by kernel_rfl) (by kernel_rfl) (by kernel_rfl) (fun _ _ _ h => h) (Or.inl ⟨by rfl, ?_⟩) hHeld ?_
  rotate_left
  · (intro w hSw; (try dsimp only at hSw); go_simp; try (with_reducible rfl))
  try simp only [Act.put, List.setIfInBounds_toArray, List.set_cons_zero, List.set_cons_succ]
  refine wpAnyH_take (i := 9) (oi := ⟨_, _, _, _, _, _⟩) (v := ?_) rfl (by kernel_rfl) (by kernel_rfl) (by kernel_rfl) (fun _ _ _ h => h) (Or.inl ⟨by rfl, ?_⟩) hHeld ?_
  rotate_left
  · (intro w hSw; (try dsimp only at hSw); go_simp; try (with_reducible rfl))
  try simp only [Act.put, List.setIfInBounds_toArray, List.set_cons_zero, List.set_cons_succ]
  refine wpAnyH_take (i := 10) (oi := ⟨_, _, _, _, _, _⟩) (v := ?_) rfl (by kernel_rfl) (by kernel_rfl) (by kernel_rfl) (fun _ _ _ h => h) (Or.inl ⟨by rfl, ?_⟩) hHeld ?_
  rotate_left
  · (intro w hSw; (try dsimp only at hSw); go_simp; try (with_reducible rfl))
  try simp only [Act.put, List.setIfInBounds_toArray, List.set_cons_zero, List.set_cons_succ]
  refine wpAnyH_take (i := 11) (oi := ⟨_, _, _, _, _, _⟩) (v := ?_) rfl (by kernel_rfl) (by kernel_rfl) (by kernel_rfl) (fun _ _ _ h => h) (Or.inl ⟨by rfl, ?_⟩) hHeld ?_
  rotate_left
  · (intro w hSw; (try dsimp only at hSw); go_simp; try (with_reducible rfl))
  try simp only [Act.put, List.setIfInBounds_toArray, List.set_cons_zero, List.set_cons_succ]
  refine wpAnyH_done (by kernel_rfl) ?_ _
  replace hB := hB.trans (hHeld.mono hB.size)
  replace x1 := x1.bel hHeld; replace x4 := x4.bel hHeld
  clear hbc hHeld Hx1 Hx4
  have Hx1 := hide x1; have Hx4 := hide x4
  obtain ⟨b63, v63, e63, ev63, r63, h63⟩ := mk_row (cells := icell) V51 #[.int .i64 13286] 3 [13286] rfl
  replace hB := hB.trans (h63.mono hB.size); replace x1 := x1.bel h63; replace x4 := x4.bel h63; replace n4 := n4.bel h63; replace m42 := m42.bel h63
  clear h63 Hx1 Hx4
  go_wp2_with fail
  rw [ev63.out, e63.out]
  clear ev63 e63
  refine (same_int _ _ [13286] [13286] _ _ _ _ _ rfl rfl (by decide) (by decide) m42 r63).mono ?_
  rintro e v64 ⟨rfl, hb⟩
  simp only [decide_true]
  replace hB := hB.trans (hb.mono hB.size)
  replace x1 := x1.bel hb; replace x4 := x4.bel hb; replace n4 := n4.bel hb
  clear hb
  clear m42 r63
  obtain ⟨p0, p1, p2, p3, p4, p5, p6, p7, p8, p9⟩ := x1.at_.c10
  go_wp2_with fail
  refine (need_fn _ _ _ _ _ _ _ _ _ _ _).mono ?_
  rintro e v77 ⟨rfl, hb⟩
  simp only [need_weak]
  clear p0 p1 p2 p3 p4 p5 p6 p7 p8 p9
  replace hB := hB.trans (hb.mono hB.size)
  replace x4 := x4.bel hb; replace n4 := n4.bel hb
  clear hb
  clear x1
  go_wp2_with fail
  refine (needs_any _).mono ?_
  rintro e u1 ⟨bn, rfl, rn, h1⟩
  go_wp2_with fail
  refine (rents_any _ _).mono ?_
  rintro e u2 ⟨br, R1, R2, k1, k2, rfl, rr, h2⟩
  go_wp2_with fail
  refine (plan_any _ _ _ _ _ _ _ _ _ (rn.bel h2) rfl (by decide) rr (by decide)).mono ?_
  rintro e u3 ⟨v, rfl, _, h3⟩
  simp only [plan_lack]
  have hb := h1.trans ((h2.trans (h3.mono h2.size)).mono h1.size)
  clear rn rr h1 h2 h3
  replace hB := hB.trans (hb.mono hB.size)
  replace x4 := x4.bel hb; replace n4 := n4.bel hb
  clear hb
  go_wp2_with fail
  refine (needs_any _).mono ?_
  rintro e u1 ⟨bn, rfl, rn, h1⟩
  go_wp2_with fail
  refine (rents_any _ _).mono ?_
  rintro e u2 ⟨br, R1, R2, k1, k2, rfl, rr, h2⟩
  go_wp2_with fail
  refine (lackR_any _ _ _ _ _ _ _ _ _ (rn.bel h2) rfl (by decide) rr (by decide)).mono ?_
  rintro e u3 ⟨A5, n5, c5, rfl, _, _, _, h3⟩
  simp only [lack_none]
  have hb := h1.trans ((h2.trans (h3.mono h2.size)).mono h1.size)
  clear rn rr h1 h2 h3
  replace hB := hB.trans (hb.mono hB.size)
  replace x4 := x4.bel hb; replace n4 := n4.bel hb
  clear hb
  obtain ⟨b94, v94, e94, ev94, r94, hb⟩ := mk_row (cells := icell) u3 #[.int .i64 (-1)] 3 [-1] rfl
  replace hB := hB.trans (hb.mono hB.size)
  replace x4 := x4.bel hb; replace n4 := n4.bel hb
  clear hb
  go_wp2_with fail
  rw [ev94.out, e94.out]
  clear ev94 e94
  refine (plan_any _ none _ _ 0 _ [-1] [] _ r94 rfl (by decide) ⟨Rd.nil _ _ _ _, rfl, by simp⟩ (by decide)).mono ?_
  rintro e u4 ⟨v, rfl, _, hb⟩
  simp only [plan_bad]
  replace hB := hB.trans (hb.mono hB.size)
  replace x4 := x4.bel hb; replace n4 := n4.bel hb
  clear hb
  clear r94
  go_wp2_with fail
  refine (sfield_any _).mono ?_
  rintro e w11 ⟨rfl, h11⟩
  go_wp2_with fail
  refine (sspan_any _ _ _).mono ?_
  rintro e w12 ⟨rfl, h12⟩
  go_wp2_with fail
  refine (after_fn _ _ _ _ _ _ _ _ _ _ _ _ _ _).mono ?_
  rintro e u5 ⟨v, rfl, _, h13⟩
  simp only [after_bad1]
  have hb := h11.trans ((h12.trans (h13.mono h12.size)).mono h11.size)
  clear h11 h12 h13
  replace hB := hB.trans (hb.mono hB.size)
  replace x4 := x4.bel hb; replace n4 := n4.bel hb
  clear hb
  go_wp2_with fail
  refine (sfield_any _).mono ?_
  rintro e w11 ⟨rfl, h11⟩
  go_wp2_with fail
  refine (sspan_any _ _ _).mono ?_
  rintro e w12 ⟨rfl, h12⟩
  go_wp2_with fail
  refine (after_fn _ _ _ _ _ _ _ _ _ _ _ _ _ _).mono ?_
  rintro e u6 ⟨v, rfl, _, h13⟩
  simp only [after_bad2]
  have hb := h11.trans ((h12.trans (h13.mono h12.size)).mono h11.size)
  clear h11 h12 h13
  replace hB := hB.trans (hb.mono hB.size)
  replace x4 := x4.bel hb; replace n4 := n4.bel hb
  clear hb
  have Hx4 := hide x4
  go_wp2_with fail
  refine wp_region_held_drew (S := (fun W => Below u6.heap.size u6 W)) (by kernel_rfl) (by (try dsimp only); exact (Below.refl _ _).drew) (fun hHeld => ?_)
  generalize World.drew u6 = Wd16 at hHeld ⊢
  have n4 := n4.bel hHeld
  have hbc := Below.refl Wd16.heap.size Wd16
  refine wpAnyH_take (i := 0) (oi := ⟨_, _, _, _, _, _⟩) (v := ?_) rfl (by kernel_rfl) (by kernel_rfl) (by kernel_rfl) (fun _ _ _ h => h) (Or.inl ⟨by rfl, ?_⟩) hHeld ?_
  rotate_left
  · (intro w hSw; (try dsimp only at hSw); obtain ⟨q0, q1, q2, q3⟩ := (Hx4.out.bel hSw).at_.c4; go_simp; try (with_reducible rfl))
  try simp only [Act.put, List.setIfInBounds_toArray, List.set_cons_zero, List.set_cons_succ]
  refine wpAnyH_ready (rs := [1]) (by kernel_rfl) (by simp) ?_
  refine AllReadyH.cons (o := ⟨_, _, _, _, _, _⟩) rfl (fun K hK => ?_) AllReadyH.nil
  go_simp
  refine (sspan_any _ _ _).mono ?_
  rintro e V113 ⟨rfl, hb⟩
  go_wp2_with fail
  have hHeldN := hHeld.trans (hb.mono hHeld.size)
  have n4 := n4.bel hb
  have hbc := hbc.trans (hb.mono hbc.size)
  refine hK.out _ _ ?_ (fun hHeld2 => ?_)
  · exact hHeldN
  clear hK K hHeld hHeldN hb; have hHeld := hHeld2; clear hHeld2
  try simp only [Act.put, List.setIfInBounds_toArray, List.set_cons_zero, List.set_cons_succ]
  refine wpAnyH_ready (rs := [2]) (by kernel_rfl) (by simp) ?_
  refine AllReadyH.cons (o := ⟨_, _, _, _, _, _⟩) rfl (fun K hK => ?_) AllReadyH.nil
  go_simp
  refine (wants_fn _ _ _ _ _ _ _ _ _ _ _ _ _ [ca0] [1] [] _ n4 rfl (by decide) (Rd.nil _ _ _ _)).mono ?_
  rintro e V114 ⟨v, out, i, er, rfl, ho, hw, hb⟩
  obtain ⟨rfl, rfl, rfl⟩ := wants_ex2 hw
  obtain ⟨A114, c114, rfl, m114⟩ := ho.rdn 0 rfl
  clear ho hw
  go_wp2_with fail
  have hHeldN := hHeld.trans (hb.mono hHeld.size)
  have n4 := n4.bel hb
  have hbc := hbc.trans (hb.mono hbc.size)
  refine hK.out _ _ ?_ (fun hHeld2 => ?_)
  · exact hHeldN
  clear hK K hHeld hHeldN hb; have hHeld := hHeld2; clear hHeld2
  try simp only [Act.put, List.setIfInBounds_toArray, List.set_cons_zero, List.set_cons_succ]
  refine wpAnyH_take (i := 3) (oi := ⟨_, _, _, _, _, _⟩) (v := ?_) rfl (by kernel_rfl) (by kernel_rfl) (by kernel_rfl) (fun _ _ _ h => h) (Or.inl ⟨by rfl, ?_⟩) hHeld ?_
  rotate_left
  · (intro w hSw; (try dsimp only at hSw); go_simp; try (with_reducible rfl))
  try simp only [Act.put, List.setIfInBounds_toArray, List.set_cons_zero, List.set_cons_succ]
  refine wpAnyH_take (i := 4) (oi := ⟨_, _, _, _, _, _⟩) (v := ?_) rfl (by kernel_rfl) (by kernel_rfl) (by kernel_rfl) (fun _ _ _ h => h) (Or.inl ⟨by rfl, ?_⟩) hHeld ?_
  rotate_left
  · (intro w hSw; (try dsimp only at hSw); go_simp; try (with_reducible rfl))
  try simp only [Act.put, List.setIfInBounds_toArray, List.set_cons_zero, List.set_cons_succ]
  refine wpAnyH_take (i := 5) (oi := ⟨_, _, _, _, _, _⟩) (v := ?_) rfl (by kernel_rfl) (by kernel_rfl) (by kernel_rfl) (fun _ _ _ h => h) (Or.inl ⟨by rfl, ?_⟩) hHeld ?_
  rotate_left
  · (intro w hSw; (try dsimp only at hSw); go_simp; try (with_reducible rfl))
  try simp only [Act.put, List.setIfInBounds_toArray, List.set_cons_zero, List.set_cons_succ]
  refine wpAnyH_take (i := 6) (oi := ⟨_, _, _, _, _, _⟩) (v := ?_) rfl (by kernel_rfl) (by kernel_rfl) (by kernel_rfl) (fun _ _ _ h => h) (Or.inl ⟨by rfl, ?_⟩) hHeld ?_
  rotate_left
  · (intro w hSw; (try dsimp only at hSw); go_simp; try (with_reducible rfl))
  try simp only [Act.put, List.setIfInBounds_toArray, List.set_cons_zero, List.set_cons_succ]
  refine wpAnyH_take (i := 7) (oi := ⟨_, _, _, _, _, _⟩) (v := ?_) rfl (by kernel_rfl) (by kernel_rfl) (by kernel_rfl) (fun _ _ _ h => h) (Or.inl ⟨by rfl, ?_⟩) hHeld ?_
  rotate_left
  · (intro w hSw; (try dsimp only at hSw); go_simp; try (with_reducible rfl))
  try simp only [Act.put, List.setIfInBounds_toArray, List.set_cons_zero, List.set_cons_succ]
  refine wpAnyH_take (i := 8) (oi := ⟨_, _, _, _, _, _⟩) (v := ?_) rfl (by kernel_rfl) (by kernel_rfl) (by kernel_rfl) (fun _ _ _ h => h) (Or.inl ⟨by rfl, ?_⟩) hHeld ?_
  rotate_left
  · (intro w hSw; (try dsimp only at hSw); go_simp; try (with_reducible rfl))
  try simp only [Act.put, List.setIfInBounds_toArray, List.set_cons_zero, List.set_cons_succ]
  refine wpAnyH_take (i := 9) (oi := ⟨_, _, _, _, _, _⟩) (v := ?_) rfl (by kernel_rfl) (by kernel_rfl) (by kernel_rfl) (fun _ _ _ h => h) (Or.inl ⟨by rfl, ?_⟩) hHeld ?_
  rotate_left
  · (intro w hSw; (try dsimp only at hSw); go_simp; try (with_reducible rfl))
  try simp only [Act.put, List.setIfInBounds_toArray, List.set_cons_zero, List.set_cons_succ]
  refine wpAnyH_done (by kernel_rfl) ?_ _
  replace hB := hB.trans (hHeld.mono hB.size)
  replace x4 := x4.bel hHeld
  clear hbc hHeld Hx4
  have Hx4 := hide x4
  go_wp2_with fail
  refine wp_region_held_drew (S := (fun W => Below V114.heap.size V114 W)) (by kernel_rfl) (by (try dsimp only); exact (Below.refl _ _).drew) (fun hHeld => ?_)
  generalize World.drew V114 = Wd17 at hHeld ⊢
  have n4 := n4.bel hHeld
  have hbc := Below.refl Wd17.heap.size Wd17
  refine wpAnyH_take (i := 0) (oi := ⟨_, _, _, _, _, _⟩) (v := ?_) rfl (by kernel_rfl) (by kernel_rfl) (by kernel_rfl) (fun _ _ _ h => h) (Or.inl ⟨by rfl, ?_⟩) hHeld ?_
  rotate_left
  · (intro w hSw; (try dsimp only at hSw); obtain ⟨q0, q1, q2, q3⟩ := (Hx4.out.bel hSw).at_.c4; go_simp; try (with_reducible rfl))
  try simp only [Act.put, List.setIfInBounds_toArray, List.set_cons_zero, List.set_cons_succ]
  refine wpAnyH_ready (rs := [1]) (by kernel_rfl) (by simp) ?_
  refine AllReadyH.cons (o := ⟨_, _, _, _, _, _⟩) rfl (fun K hK => ?_) AllReadyH.nil
  go_simp
  refine (sspan_any _ _ _).mono ?_
  rintro e V120 ⟨rfl, hb⟩
  go_wp2_with fail
  have hHeldN := hHeld.trans (hb.mono hHeld.size)
  have n4 := n4.bel hb
  have hbc := hbc.trans (hb.mono hbc.size)
  refine hK.out _ _ ?_ (fun hHeld2 => ?_)
  · exact hHeldN
  clear hK K hHeld hHeldN hb; have hHeld := hHeld2; clear hHeld2
  try simp only [Act.put, List.setIfInBounds_toArray, List.set_cons_zero, List.set_cons_succ]
  refine wpAnyH_ready (rs := [2]) (by kernel_rfl) (by simp) ?_
  refine AllReadyH.cons (o := ⟨_, _, _, _, _, _⟩) rfl (fun K hK => ?_) AllReadyH.nil
  go_simp
  refine (wants_fn _ _ _ _ _ _ _ _ _ _ _ _ _ [ca0] [1] [] _ n4 rfl (by decide) (Rd.nil _ _ _ _)).mono ?_
  rintro e V121 ⟨v, out, i, er, rfl, ho, hw, hb⟩
  obtain ⟨rfl, rfl, rfl⟩ := wants_ex3 hw
  obtain ⟨A121, c121, rfl, m121⟩ := ho.rdn 0 rfl
  clear ho hw
  go_wp2_with fail
  have hHeldN := hHeld.trans (hb.mono hHeld.size)
  have n4 := n4.bel hb
  have hbc := hbc.trans (hb.mono hbc.size)
  refine hK.out _ _ ?_ (fun hHeld2 => ?_)
  · exact hHeldN
  clear hK K hHeld hHeldN hb; have hHeld := hHeld2; clear hHeld2
  try simp only [Act.put, List.setIfInBounds_toArray, List.set_cons_zero, List.set_cons_succ]
  refine wpAnyH_take (i := 3) (oi := ⟨_, _, _, _, _, _⟩) (v := ?_) rfl (by kernel_rfl) (by kernel_rfl) (by kernel_rfl) (fun _ _ _ h => h) (Or.inl ⟨by rfl, ?_⟩) hHeld ?_
  rotate_left
  · (intro w hSw; (try dsimp only at hSw); go_simp; try (with_reducible rfl))
  try simp only [Act.put, List.setIfInBounds_toArray, List.set_cons_zero, List.set_cons_succ]
  refine wpAnyH_take (i := 4) (oi := ⟨_, _, _, _, _, _⟩) (v := ?_) rfl (by kernel_rfl) (by kernel_rfl) (by kernel_rfl) (fun _ _ _ h => h) (Or.inl ⟨by rfl, ?_⟩) hHeld ?_
  rotate_left
  · (intro w hSw; (try dsimp only at hSw); go_simp; try (with_reducible rfl))
  try simp only [Act.put, List.setIfInBounds_toArray, List.set_cons_zero, List.set_cons_succ]
  refine wpAnyH_take (i := 5) (oi := ⟨_, _, _, _, _, _⟩) (v := ?_) rfl (by kernel_rfl) (by kernel_rfl) (by kernel_rfl) (fun _ _ _ h => h) (Or.inl ⟨by rfl, ?_⟩) hHeld ?_
  rotate_left
  · (intro w hSw; (try dsimp only at hSw); go_simp; try (with_reducible rfl))
  try simp only [Act.put, List.setIfInBounds_toArray, List.set_cons_zero, List.set_cons_succ]
  refine wpAnyH_take (i := 6) (oi := ⟨_, _, _, _, _, _⟩) (v := ?_) rfl (by kernel_rfl) (by kernel_rfl) (by kernel_rfl) (fun _ _ _ h => h) (Or.inl ⟨by rfl, ?_⟩) hHeld ?_
  rotate_left
  · (intro w hSw; (try dsimp only at hSw); go_simp; try (with_reducible rfl))
  try simp only [Act.put, List.setIfInBounds_toArray, List.set_cons_zero, List.set_cons_succ]
  refine wpAnyH_take (i := 7) (oi := ⟨_, _, _, _, _, _⟩) (v := ?_) rfl (by kernel_rfl) (by kernel_rfl) (by kernel_rfl) (fun _ _ _ h => h) (Or.inl ⟨by rfl, ?_⟩) hHeld ?_
  rotate_left
  · (intro w hSw; (try dsimp only at hSw); go_simp; try (with_reducible rfl))
  try simp only [Act.put, List.setIfInBounds_toArray, List.set_cons_zero, List.set_cons_succ]
  refine wpAnyH_take (i := 8) (oi := ⟨_, _, _, _, _, _⟩) (v := ?_) rfl (by kernel_rfl) (by kernel_rfl) (by kernel_rfl) (fun _ _ _ h => h) (Or.inl ⟨by rfl, ?_⟩) hHeld ?_
  rotate_left
  · (intro w hSw; (try dsimp only at hSw); go_simp; try (with_reducible rfl))
  try simp only [Act.put, List.setIfInBounds_toArray, List.set_cons_zero, List.set_cons_succ]
  refine wpAnyH_take (i := 9) (oi := ⟨_, _, _, _, _, _⟩) (v := ?_) rfl (by kernel_rfl) (by kernel_rfl) (by kernel_rfl) (fun _ _ _ h => h) (Or.inl ⟨by rfl, ?_⟩) hHeld ?_
  rotate_left
  · (intro w hSw; (try dsimp only at hSw); go_simp; try (with_reducible rfl))
  try simp only [Act.put, List.setIfInBounds_toArray, List.set_cons_zero, List.set_cons_succ]
  refine wpAnyH_done (by kernel_rfl) ?_ _
  replace hB := hB.trans (hHeld.mono hB.size)
  clear hbc hHeld Hx4 x4 n4
  go_wp2_with fail
  refine (sspan_any _ _ _).mono ?_
  rintro e w12 ⟨rfl, hb⟩
  replace hB := hB.trans (hb.mono hB.size)
  clear hb
  go_wp2_with fail
  refine (wants_fn _ _ _ _ _ _ _ _ _ _ _ _ _ [] [] [] _ ⟨Rd.nil _ _ _ _, Rd.nil _ _ _ _, rfl, rfl, by decide, by decide⟩ rfl (by decide) (Rd.nil _ _ _ _)).mono ?_
  rintro e u7 ⟨v, out, i, er, rfl, ho, hw, hb⟩
  obtain ⟨rfl, rfl, rfl⟩ := wants_ex4 hw
  clear ho hw
  replace hB := hB.trans (hb.mono hB.size)
  clear hb
  go_wp2_with fail
  refine (salt_check _ _ _ _ _ _ _ _ _ _ _).mono ?_
  rintro e u8 ⟨rfl, hb⟩
  simp only [check_bad]
  replace hB := hB.trans (hb.mono hB.size)
  clear hb
  go_wp2_with fail
  go_ret
  exact ⟨rfl, hB⟩
set_option maxRecDepth 100000 in
theorem saltExamples_lifted (os : Os) (started : os.Started) (H : Type) (enc : TypeId × Value → H) :
    ReturnsInHanded {} Try.checked os 12 .any (Rows.saltExamplesSpec.pre6 enc Try.prog Try.f12 Rows.saltExamplesRow.domain false) (Rows.saltExamplesSpec.post enc Try.prog Try.f12 false true false false) := by
  refine law_lifted os started H enc (s := Rows.saltExamplesSpec) Try.func12 (by kernel_rfl) ?_ rfl Try.underlying4 rfl (of_decide_eq_true (by kernel_rfl))
    (ChangeSpec.witness6 (enc := enc) (C := Try.checked) false ⟨#[], #[], []⟩ 8 (by kernel_rfl) (by kernel_rfl) (by kernel_rfl) (by kernel_rfl)) ?_
  · intro ds hds
    match ds, hds with
    | [], _ => rfl
  · intro W base args ds ps hval hA hlt
    rw [Try.params12] at hA hval
    obtain rfl := trodAll_zero hA
    
    exact sexamples_walk W

theorem saltExamples_holds : Rows.SaltExamplesSaid :=
  OpenClaim.holds_of_wide 12 Try.f12 rfl rfl rfl rfl rfl rfl rfl ⟨rfl, rfl, rfl, rfl, rfl⟩ rfl rfl rfl rfl rfl (by kernel_rfl) Try.func12 (by kernel_rfl)
    (of_decide_eq_true (by kernel_rfl)) (by unfold Func.isWrapper; rw [if_neg (of_decide_eq_false (by kernel_rfl))]; exact ⟨rfl, rfl⟩)
    (fun os started H enc _ => saltExamples_lifted os started H enc)
#print axioms saltExamples_holds
end Go.Proofs.Ytmbhnjpaieimbaa
