/- Gallery, outright: the chapter's galleries as they lie in memory, and what the plain functions yield there. -/
import Derived.Test.YtkmocikcohhdoaaHC
import Derived.Test.YtkmocikcohhdoaaFB
import Derived.Test.YtkmocikcohhdoaaGC
import Derived.Test.YtkmocikcohhdoaaG6
import Derived.Test.YtkmocikcohhdoaaRegW
set_option linter.unusedVariables false
set_option linter.unusedSimpArgs false
namespace Go.Proofs.Ytkmocikcohhdoaa
open Go.RowKit Go.Shelf
theorem Rd.rdw {α : Type} {cells : α → List Value} {w : World} {A : Option Addr} {xs : List α} (h : Rd w w.heap.size cells A xs) : Rd w w.heap.size cells A xs := h
def crs : List Rc := [⟨⟨1000, 1000⟩, ⟨10, 20⟩, ⟨0, 0⟩⟩, ⟨⟨1000, 1000⟩, ⟨0, 0⟩, ⟨50, 60⟩⟩, ⟨⟨1000, 1000⟩, ⟨30, 30⟩, ⟨0, 0⟩⟩]
def blk : List Rc := [⟨⟨450, 450⟩, ⟨10, 20⟩, ⟨0, 0⟩⟩, ⟨⟨1000, 1000⟩, ⟨0, 0⟩, ⟨50, 60⟩⟩, ⟨⟨500, 500⟩, ⟨30, 30⟩, ⟨0, 0⟩⟩]
theorem ex_src : srcV [⟨⟨100, 120⟩, 2000⟩, ⟨⟨200, 200⟩, 505⟩] [⟨10, 11⟩] = ⟨290, 331⟩ ∧ srcErr [⟨⟨100, 120⟩, 2000⟩, ⟨⟨200, 200⟩, 505⟩] [⟨10, 11⟩] = 0 := by decide
theorem ex_fl1 : flErr crs ⟨500, 600⟩ [] = 0 ∧ flL crs ⟨500, 600⟩ [] = [⟨500, 600⟩, ⟨480, 590⟩, ⟨530, 650⟩, ⟨500, 620⟩] ∧ loL crs ⟨500, 600⟩ [] = [⟨10, 20⟩, ⟨0, 0⟩, ⟨30, 30⟩] := by decide
theorem ex_fl2 : flErr crs ⟨500, 600⟩ [⟨3, ⟨510, 520⟩⟩] = 0 ∧ flL crs ⟨500, 600⟩ [⟨3, ⟨510, 520⟩⟩] = [⟨500, 520⟩, ⟨480, 500⟩, ⟨540, 550⟩, ⟨510, 520⟩] := by decide
theorem ex_fal1 : falE crs ⟨500, 600⟩ [⟨3, ⟨300, 310⟩⟩] ⟨100, 300⟩ = 0 ∧ falL crs ⟨500, 600⟩ [⟨3, ⟨300, 310⟩⟩] ⟨100, 300⟩ = [0, 1] ∧ falW crs ⟨500, 600⟩ [⟨3, ⟨300, 310⟩⟩] ⟨100, 300⟩ = false ∧ nextS crs ⟨500, 600⟩ [⟨3, ⟨300, 310⟩⟩] ⟨100, 300⟩ = (1, 1) := by decide
theorem ex_cl1 : cleanErr blk ⟨500, 600⟩ 481 = 0 ∧ cleanL blk ⟨500, 600⟩ 481 = [0, 2] := by decide
theorem gspan_any (lo hi : Int) (w : World) : Calls Try.prog 32 #[.int .i64 lo, .int .i64 hi] w fun e w' => e = .returned (.agg #[.int .i64 lo, .int .i64 hi]) ∧ Below w.heap.size w w' := by
  go_enter Try.func32, Try.ntmps32
  go_wp2
  exact bodyPost_ret (by simp [results, Try.results32, go_sem]; try rfl) rfl ⟨rfl, below_new _ _⟩
set_option maxHeartbeats 4000000 in
set_option maxRecDepth 100000 in
theorem course_any (w : World) : Calls Try.prog 34 #[] w fun e w' => ∃ b, e = .returned (.slice (some ⟨b, 0, none⟩) 3 3) ∧ Own w' w.heap.size 96 6 Rc.cells (.slice (some ⟨b, 0, none⟩) 3 3) crs ∧ Below w.heap.size w w' := by
  go_enter Try.func34, Try.ntmps34
  go_wp2_with fail
  refine (gspan_any _ _ _).mono ?_
  rintro e w1 ⟨rfl, h1⟩
  obtain ⟨b1, w2, e1, ew1, hx1, hb1, hz1⟩ := mk_bx w1 #[.int .i64 1000, .int .i64 1000] 24
  have hB2 := h1.trans (hb1.mono h1.size)
  go_wp2_with fail
  rw [ew1.out, e1.out]
  refine wp_region_held_drew (S := (fun W => Below w2.heap.size w2 W)) (by kernel_rfl) (by (try dsimp only); exact (Below.refl _ _).drew) (fun hHeld => ?_)
  generalize World.drew w2 = Wd2 at hHeld ⊢
  have hbc := Below.refl Wd2.heap.size Wd2
  refine wpAnyH_take (i := 0) (oi := ⟨_, _, _, _, _, _⟩) (v := ?_) rfl (by kernel_rfl) (by kernel_rfl) (by kernel_rfl) (fun _ _ _ h => h) (Or.inl ⟨by rfl, ?_⟩) hHeld ?_
  rotate_left
  · (intro w hSw; (try dsimp only at hSw); obtain ⟨q0, q1, _, _⟩ := (hx1.bel hSw).w2; go_simp; try (with_reducible rfl))
  try simp only [Act.put, List.setIfInBounds_toArray, List.set_cons_zero, List.set_cons_succ]
  refine wpAnyH_take (i := 3) (oi := ⟨_, _, _, _, _, _⟩) (v := ?_) rfl (by kernel_rfl) (by kernel_rfl) (by kernel_rfl) (fun _ _ _ h => h) (Or.inl ⟨by rfl, ?_⟩) hHeld ?_
  rotate_left
  · (intro w hSw; (try dsimp only at hSw); obtain ⟨q0, q1, _, _⟩ := (hx1.bel hSw).w2; go_simp; try (with_reducible rfl))
  try simp only [Act.put, List.setIfInBounds_toArray, List.set_cons_zero, List.set_cons_succ]
  refine wpAnyH_take (i := 6) (oi := ⟨_, _, _, _, _, _⟩) (v := ?_) rfl (by kernel_rfl) (by kernel_rfl) (by kernel_rfl) (fun _ _ _ h => h) (Or.inl ⟨by rfl, ?_⟩) hHeld ?_
  rotate_left
  · (intro w hSw; (try dsimp only at hSw); obtain ⟨q0, q1, _, _⟩ := (hx1.bel hSw).w2; go_simp; try (with_reducible rfl))
  try simp only [Act.put, List.setIfInBounds_toArray, List.set_cons_zero, List.set_cons_succ]
  refine wpAnyH_ready (rs := [1]) (by kernel_rfl) (by simp) ?_
  refine AllReadyH.cons (o := ⟨_, _, _, _, _, _⟩) rfl (fun K hK => ?_) AllReadyH.nil
  go_simp
  refine (gspan_any _ _ _).mono ?_
  rintro e V4 ⟨rfl, hb⟩
  go_wp2_with fail
  have hHeldN := hHeld.trans (hb.mono hHeld.size)
  have hbc := hbc.trans (hb.mono hbc.size)
  refine hK.out _ _ ?_ (fun hHeld2 => ?_)
  · exact hHeldN
  clear hK K hHeld hHeldN hb; have hHeld := hHeld2; clear hHeld2
  try simp only [Act.put, List.setIfInBounds_toArray, List.set_cons_zero, List.set_cons_succ]
  refine wpAnyH_take (i := 2) (oi := ⟨_, _, _, _, _, _⟩) (v := ?_) rfl (by kernel_rfl) (by kernel_rfl) (by kernel_rfl) (fun _ _ _ h => h) (Or.inl ⟨by rfl, ?_⟩) hHeld ?_
  rotate_left
  · (intro w hSw; (try dsimp only at hSw); go_simp; try (with_reducible rfl))
  try simp only [Act.put, List.setIfInBounds_toArray, List.set_cons_zero, List.set_cons_succ]
  refine wpAnyH_ready (rs := [4]) (by kernel_rfl) (by simp) ?_
  refine AllReadyH.cons (o := ⟨_, _, _, _, _, _⟩) rfl (fun K hK => ?_) AllReadyH.nil
  go_simp
  refine (gspan_any _ _ _).mono ?_
  rintro e V7 ⟨rfl, hb⟩
  go_wp2_with fail
  have hHeldN := hHeld.trans (hb.mono hHeld.size)
  have hbc := hbc.trans (hb.mono hbc.size)
  refine hK.out _ _ ?_ (fun hHeld2 => ?_)
  · exact hHeldN
  clear hK K hHeld hHeldN hb; have hHeld := hHeld2; clear hHeld2
  try simp only [Act.put, List.setIfInBounds_toArray, List.set_cons_zero, List.set_cons_succ]
  refine wpAnyH_take (i := 5) (oi := ⟨_, _, _, _, _, _⟩) (v := ?_) rfl (by kernel_rfl) (by kernel_rfl) (by kernel_rfl) (fun _ _ _ h => h) (Or.inl ⟨by rfl, ?_⟩) hHeld ?_
  rotate_left
  · (intro w hSw; (try dsimp only at hSw); go_simp; try (with_reducible rfl))
  try simp only [Act.put, List.setIfInBounds_toArray, List.set_cons_zero, List.set_cons_succ]
  refine wpAnyH_ready (rs := [7]) (by kernel_rfl) (by simp) ?_
  refine AllReadyH.cons (o := ⟨_, _, _, _, _, _⟩) rfl (fun K hK => ?_) AllReadyH.nil
  go_simp
  refine (gspan_any _ _ _).mono ?_
  rintro e V10 ⟨rfl, hb⟩
  go_wp2_with fail
  have hHeldN := hHeld.trans (hb.mono hHeld.size)
  have hbc := hbc.trans (hb.mono hbc.size)
  refine hK.out _ _ ?_ (fun hHeld2 => ?_)
  · exact hHeldN
  clear hK K hHeld hHeldN hb; have hHeld := hHeld2; clear hHeld2
  try simp only [Act.put, List.setIfInBounds_toArray, List.set_cons_zero, List.set_cons_succ]
  refine wpAnyH_take (i := 8) (oi := ⟨_, _, _, _, _, _⟩) (v := ?_) rfl (by kernel_rfl) (by kernel_rfl) (by kernel_rfl) (fun _ _ _ h => h) (Or.inl ⟨by rfl, ?_⟩) hHeld ?_
  rotate_left
  · (intro w hSw; (try dsimp only at hSw); go_simp; try (with_reducible rfl))
  try simp only [Act.put, List.setIfInBounds_toArray, List.set_cons_zero, List.set_cons_succ]
  refine wpAnyH_ready (rs := [9]) (by kernel_rfl) (by simp) ?_
  refine AllReadyH.cons (o := ⟨_, _, _, _, _, _⟩) rfl (fun K hK => ?_) AllReadyH.nil
  go_simp
  obtain ⟨b12, V12, eb12, ev12, o12, hb⟩ := mk_own (cells := Rc.cells) V10 #[.int .i64 1000, .int .i64 1000, .int .i64 10, .int .i64 20, .int .i64 0, .int .i64 0, .int .i64 1000, .int .i64 1000, .int .i64 0, .int .i64 0, .int .i64 50, .int .i64 60, .int .i64 1000, .int .i64 1000, .int .i64 30, .int .i64 30, .int .i64 0, .int .i64 0] 96 6 crs Rc.len rfl (by decide) w2.heap.size hHeld.size
  rw [ev12.out, eb12.out]
  have hHeldN := hHeld.trans (hb.mono hHeld.size)
  have hbc := hbc.trans (hb.mono hbc.size)
  refine hK.out _ _ ?_ (fun hHeld2 => ?_)
  · exact hHeldN
  clear hK K hHeld hHeldN hb; have hHeld := hHeld2; clear hHeld2
  try simp only [Act.put, List.setIfInBounds_toArray, List.set_cons_zero, List.set_cons_succ]
  refine wpAnyH_take (i := 10) (oi := ⟨_, _, _, _, _, _⟩) (v := ?_) rfl (by kernel_rfl) (by kernel_rfl) (by kernel_rfl) (fun _ _ _ h => h) (Or.inl ⟨by rfl, ?_⟩) hHeld ?_
  rotate_left
  · (intro w hSw; (try dsimp only at hSw); go_simp; try (with_reducible rfl))
  try simp only [Act.put, List.setIfInBounds_toArray, List.set_cons_zero, List.set_cons_succ]
  refine wpAnyH_done (by kernel_rfl) ?_ _
  go_wp2_with fail
  go_ret
  exact ⟨b12, rfl, o12.mono hB2.size, hB2.trans (hHeld.mono hB2.size)⟩
theorem last_own (lo hi : Int) (w : World) : Calls Try.prog 33 #[.int .i64 lo, .int .i64 hi] w fun e w' => ∃ b, e = .returned (.slice (some ⟨b, 0, none⟩) 1 1) ∧ Own w' w.heap.size 64 3 Ga.cells (.slice (some ⟨b, 0, none⟩) 1 1) [⟨3, ⟨lo, hi⟩⟩] ∧ Below w.heap.size w w' := by
  go_enter Try.func33, Try.ntmps33
  go_wp2_with fail
  refine (gspan_any _ _ _).mono ?_
  rintro e w1 ⟨rfl, h1⟩
  obtain ⟨b9, w2, e9, ew2, hr, hb2⟩ := mk_own (cells := Ga.cells) w1 #[.int .i64 3, .int .i64 lo, .int .i64 hi] 64 3 [⟨3, ⟨lo, hi⟩⟩] Ga.len rfl (by simp) w.heap.size h1.size
  go_wp2_with fail
  go_ret
  exact ⟨b9, by rw [e9.out]; rfl, by rw [ew2.out]; exact hr, by rw [ew2.out]; exact h1.trans (hb2.mono h1.size)⟩
theorem last_any (lo hi : Int) (w : World) : Calls Try.prog 33 #[.int .i64 lo, .int .i64 hi] w fun e w' => ∃ b, e = .returned (.slice (some ⟨b, 0, none⟩) 1 1) ∧ Rd w' w'.heap.size Ga.cells (some ⟨b, 0, none⟩) [⟨3, ⟨lo, hi⟩⟩] ∧ Below w.heap.size w w' :=
  (last_own lo hi w).mono fun e w' h => let ⟨b, h1, h2, h3⟩ := h; ⟨b, h1, h2.rdw, h3⟩
set_option maxHeartbeats 4000000 in
set_option maxRecDepth 100000 in
theorem blocked_any (w : World) : Calls Try.prog 79 #[] w fun e w' => ∃ b, e = .returned (.slice (some ⟨b, 0, none⟩) 3 3) ∧ Rd w' w'.heap.size Rc.cells (some ⟨b, 0, none⟩) blk ∧ Below w.heap.size w w' := by
  go_enter Try.func79, Try.ntmps79
  go_wp2_with fail
  refine (course_any _).mono ?_
  rintro e w1 ⟨q, rfl, ho, h1⟩
  go_wp2_with fail
  refine (gspan_any _ _ _).mono ?_
  rintro e w2 ⟨rfl, h2⟩
  go_wp2_with fail
  refine (gspan_any _ _ _).mono ?_
  rintro e w3 ⟨rfl, h3⟩
  have hB3 := h1.trans ((h2.trans (h3.mono h2.size)).mono h1.size)
  have ho3 := (ho.bel h2).bel h3
  obtain ⟨z0, z1, z2, z3⟩ := own_rc2 (i := 0) ho3 rfl rfl
  obtain ⟨y0, y1, y2, y3⟩ := own_rc2 (i := 2) ho3 rfl rfl
  obtain ⟨o1, k1⟩ := own_cap (i := 0) ho3 rfl ⟨450, 450⟩ rfl
  obtain ⟨o2, k2⟩ := own_cap (i := 2) o1 rfl ⟨500, 500⟩ rfl
  simp only [Nat.zero_mul, Nat.zero_add, Nat.reduceMul, Nat.reduceAdd] at z0 z1 z2 z3 y0 y1 y2 y3 o2 k1 k2
  have hge : w.heap.size ≤ q := (ho.blockG rfl).1
  have Ho2 := hide o2; have Hk := hide (k1.trans k2)
  have HB := hide hB3
  clear o1 o2 k1 k2 ho ho3 h1 h2 h3 hB3
  go_wp2_with fail
  go_ret
  exact ⟨q, rfl, Ho2.out.rdw, HB.out.trans (Hk.out.below (fun b hb => by omega) HB.out.size)⟩
end Go.Proofs.Ytkmocikcohhdoaa
