/- Channel: what goes out of a canal, and what seeps, by contracts. -/
import Derived.Test.YtmbhnjpaieimbaaW1
set_option linter.unusedVariables false
set_option linter.unusedSimpArgs false
namespace Go.Proofs.Ytmbhnjpaieimbaa
open Go.RowKit Go.Shelf
attribute [local go_sem ↓] Go.wp_at_zero Go.wp_at_succ
/-- Two boxes that are read, and a result of two cells that is written. -/
structure GC (w W : World) (b1 : Nat) (c1 : List Value) (b2 : Nat) (c2 : List Value) (r : Nat) : Prop where
  a1 : At W b1 c1
  a2 : At W b2 c2
  rr : ∃ x y : Value, At W r [x, y]
  fz : ∀ j : Nat, W.frozen? ⟨r, j, none⟩ = false
  bl : Below w.heap.size w W
  n1 : b1 ≠ r
  n2 : b2 ≠ r
  le : w.heap.size ≤ r
section
variable {w W W' : World} {b1 b2 r : Nat} {c1 c2 : List Value}
theorem GC.keep (h : GC w W b1 c1 b2 c2 r) (hb : Below W.heap.size W W') : GC w W' b1 c1 b2 c2 r := by
  obtain ⟨x, y, hr⟩ := h.rr
  exact ⟨h.a1.below hb, h.a2.below hb, ⟨x, y, hr.below hb⟩, fun j => (hb.frozen (p := ⟨_, j, none⟩) hr.1).trans (h.fz j), h.bl.trans (hb.mono h.bl.size), h.n1, h.n2, h.le⟩
theorem GC.drew (h : GC w W b1 c1 b2 c2 r) : GC w W.drew b1 c1 b2 c2 r := ⟨h.a1, h.a2, h.rr, h.fz, h.bl.drew, h.n1, h.n2, h.le⟩
theorem At.other {w : World} {p r : Nat} {cs : List Value} (h : At w p cs) (j : Nat) (u : Value) (hne : p ≠ r) : At (w.setCell ⟨r, j, none⟩ u) p cs :=
  ⟨by simpa [World.setCell] using h.1, fun i v hv => (World.cell?_setCell_other _ _ _ _ (by simp [hne])).trans (h.2 i v hv)⟩
theorem GC.set2 (h : GC w W b1 c1 b2 c2 r) (x y : Value) : GC w ((W.setCell ⟨r, 0, none⟩ x).setCell ⟨r, 1, none⟩ y) b1 c1 b2 c2 r := by
  obtain ⟨x', y', hr⟩ := h.rr
  refine ⟨(h.a1.other _ _ h.n1).other _ _ h.n1, (h.a2.other _ _ h.n2).other _ _ h.n2, ⟨x, y, ?_⟩, fun j => ?_, (h.bl.setCell h.le _).setCell h.le _, h.n1, h.n2, h.le⟩
  · have h1 := (hr.set (j := 0) x (by simp)).set (j := 1) y (by simp)
    simpa using h1
  · rw [World.frozen?_setCell, World.frozen?_setCell]
    exact h.fz j
end
theorem gc_new (w : World) (c1 c2 c3 : Array Value) (t1 t2 t3 : TypeId) (x y : Value) (h3 : c3.toList = [x, y]) :
    GC w (((w.alloc (.cells c1 t1)).alloc (.cells c2 t2)).alloc (.cells c3 t3)) w.heap.size c1.toList (w.heap.size + 1) c2.toList (w.heap.size + 1 + 1) := by
  refine ⟨((At.new w c1 t1 _ rfl _ rfl).alloc _).alloc _, (At.new _ c2 t2 _ (by simp) _ rfl).alloc _, ⟨x, y, At.new _ c3 t3 _ (by simp) _ h3⟩, fun j => At.frozen_new _ c3 t3 _ (by simp) j, ?_, by omega, by omega, by omega⟩
  exact ((below_new w _).alloc (by simp) _).alloc (by simp; omega) _
theorem below_of_eq {w w' : World} (h : w = w') : Below w.heap.size w w' := h ▸ Below.refl _ _
def goF (x : Wk) (v : Sp) : Sp := ⟨downF v.lo x.fill.hi x.thr.lo, upG v.hi x.fill.lo x.thr.hi⟩
def seF (x : Wk) (v : Sp) : Sp := ⟨v.lo - upG v.lo x.fill.lo x.thr.hi, v.hi - downF v.hi x.fill.hi x.thr.lo⟩
def amts (v : Sp) : Prop := amt v.lo ∧ amt v.hi
theorem goF_amt {x : Wk} {v : Sp} (hx : x.wf) (hv : amts v) : amts (goF x v) := by
  obtain ⟨f0, f1, t0, t1⟩ := hx
  have h1 := downF_bd hv.1 f1 t0.1 t0.2
  have h2 := upG_bd hv.2 f0 t1.1 t1.2
  obtain ⟨⟨a, b⟩, ⟨c, d⟩⟩ := hv
  exact ⟨⟨h1.1, by show downF _ _ _ ≤ _; omega⟩, ⟨h2.1, by show upG _ _ _ ≤ _; omega⟩⟩
theorem seF_amt {x : Wk} {v : Sp} (hx : x.wf) (hv : amts v) : amts (seF x v) := by
  obtain ⟨f0, f1, t0, t1⟩ := hx
  have h1 := downF_bd hv.2 f1 t0.1 t0.2
  have h2 := upG_bd hv.1 f0 t1.1 t1.2
  obtain ⟨⟨a, b⟩, ⟨c, d⟩⟩ := hv
  exact ⟨⟨by show 0 ≤ v.lo - upG _ _ _; omega, by show v.lo - upG _ _ _ ≤ _; omega⟩, ⟨by show 0 ≤ v.hi - downF _ _ _; omega, by show v.hi - downF _ _ _ ≤ _; omega⟩⟩
theorem sub_w {a b : Int} (ha : amt a) (hb : 0 ≤ b ∧ b ≤ a) : wrap64 (a - b) = a - b := w64 (by obtain ⟨h0, h1⟩ := ha; omega)
set_option maxHeartbeats 4000000 in
set_option maxRecDepth 100000 in
theorem goes_any (f0 f1 t0 t1 v0 v1 : Int) (w : World) (hx : Wk.wf ⟨⟨f0, f1⟩, ⟨t0, t1⟩⟩) (hv : amts ⟨v0, v1⟩) :
    Calls Try.prog 108 #[.agg #[.int .i64 f0, .int .i64 f1, .int .i64 t0, .int .i64 t1], .agg #[.int .i64 v0, .int .i64 v1]] w fun e w' => e = .returned (.agg #[.int .i64 (goF ⟨⟨f0, f1⟩, ⟨t0, t1⟩⟩ ⟨v0, v1⟩).lo, .int .i64 (goF ⟨⟨f0, f1⟩, ⟨t0, t1⟩⟩ ⟨v0, v1⟩).hi]) ∧ Below w.heap.size w w' := by
  have Hx := hide hx; have Hv := hide hv; clear hx hv
  go_enter Try.func108, Try.ntmps108
  go_wp2_with fail
  obtain ⟨W0, HW0⟩ : ∃ W0, Hid (((w.alloc (.cells #[.int .i64 f0, .int .i64 f1, .int .i64 t0, .int .i64 t1] 159)).alloc (.cells #[.int .i64 v0, .int .i64 v1] 23)).alloc (.cells #[.int .i64 0, .int .i64 0] 23) = W0) := ⟨_, hide rfl⟩
  rw [HW0.out]
  have HS : Hid (GC w W0 w.heap.size [.int .i64 f0, .int .i64 f1, .int .i64 t0, .int .i64 t1] (w.heap.size + 1) [.int .i64 v0, .int .i64 v1] (w.heap.size + 1 + 1)) := by
    rw [← HW0.out]; exact hide (gc_new w #[.int .i64 f0, .int .i64 f1, .int .i64 t0, .int .i64 t1] #[.int .i64 v0, .int .i64 v1] #[.int .i64 0, .int .i64 0] _ _ _ _ _ rfl)
  clear HW0
  refine wp_region_held_drew (S := (fun W => GC w W w.heap.size [.int .i64 f0, .int .i64 f1, .int .i64 t0, .int .i64 t1] (w.heap.size + 1) [.int .i64 v0, .int .i64 v1] (w.heap.size + 1 + 1))) (by kernel_rfl) (by (try dsimp only); exact HS.out.drew) (fun hHeld => ?_)
  refine wpAnyH_take (i := 0) (oi := ⟨_, _, _, _, _, _⟩) (v := ?_) rfl (by kernel_rfl) (by kernel_rfl) (by kernel_rfl) (fun _ _ _ h => h) (Or.inl ⟨by rfl, ?_⟩) hHeld ?_
  rotate_left
  · (intro w hSw; (try dsimp only at hSw); go_simp; try (with_reducible rfl))
  try simp only [Act.put, List.setIfInBounds_toArray, List.set_cons_zero, List.set_cons_succ]
  refine wpAnyH_take (i := 1) (oi := ⟨_, _, _, _, _, _⟩) (v := ?_) rfl (by kernel_rfl) (by kernel_rfl) (by kernel_rfl) (fun _ _ _ h => h) (Or.inl ⟨by rfl, ?_⟩) hHeld ?_
  rotate_left
  · (intro w hSw; (try dsimp only at hSw); obtain ⟨q0, q1, q2, q3⟩ := hSw.a1.c4; obtain ⟨p0, p1⟩ := hSw.a2.c2; go_simp; try (with_reducible rfl))
  try simp only [Act.put, List.setIfInBounds_toArray, List.set_cons_zero, List.set_cons_succ]
  refine wpAnyH_take (i := 2) (oi := ⟨_, _, _, _, _, _⟩) (v := ?_) rfl (by kernel_rfl) (by kernel_rfl) (by kernel_rfl) (fun _ _ _ h => h) (Or.inl ⟨by rfl, ?_⟩) hHeld ?_
  rotate_left
  · (intro w hSw; (try dsimp only at hSw); go_simp; try (with_reducible rfl))
  try simp only [Act.put, List.setIfInBounds_toArray, List.set_cons_zero, List.set_cons_succ]
  refine wpAnyH_take (i := 3) (oi := ⟨_, _, _, _, _, _⟩) (v := ?_) rfl (by kernel_rfl) (by kernel_rfl) (by kernel_rfl) (fun _ _ _ h => h) (Or.inl ⟨by rfl, ?_⟩) hHeld ?_
  rotate_left
  · (intro w hSw; (try dsimp only at hSw); go_simp; try (with_reducible rfl))
  try simp only [Act.put, List.setIfInBounds_toArray, List.set_cons_zero, List.set_cons_succ]
  refine wpAnyH_take (i := 4) (oi := ⟨_, _, _, _, _, _⟩) (v := ?_) rfl (by kernel_rfl) (by kernel_rfl) (by kernel_rfl) (fun _ _ _ h => h) (Or.inl ⟨by rfl, ?_⟩) hHeld ?_
  rotate_left
  · (intro w hSw; (try dsimp only at hSw); obtain ⟨q0, q1, q2, q3⟩ := hSw.a1.c4; obtain ⟨p0, p1⟩ := hSw.a2.c2; go_simp; try (with_reducible rfl))
  try simp only [Act.put, List.setIfInBounds_toArray, List.set_cons_zero, List.set_cons_succ]
  refine wpAnyH_take (i := 5) (oi := ⟨_, _, _, _, _, _⟩) (v := ?_) rfl (by kernel_rfl) (by kernel_rfl) (by kernel_rfl) (fun _ _ _ h => h) (Or.inl ⟨by rfl, ?_⟩) hHeld ?_
  rotate_left
  · (intro w hSw; (try dsimp only at hSw); go_simp; try (with_reducible rfl))
  try simp only [Act.put, List.setIfInBounds_toArray, List.set_cons_zero, List.set_cons_succ]
  refine wpAnyH_take (i := 6) (oi := ⟨_, _, _, _, _, _⟩) (v := ?_) rfl (by kernel_rfl) (by kernel_rfl) (by kernel_rfl) (fun _ _ _ h => h) (Or.inl ⟨by rfl, ?_⟩) hHeld ?_
  rotate_left
  · (intro w hSw; (try dsimp only at hSw); go_simp; try (with_reducible rfl))
  try simp only [Act.put, List.setIfInBounds_toArray, List.set_cons_zero, List.set_cons_succ]
  refine wpAnyH_take (i := 7) (oi := ⟨_, _, _, _, _, _⟩) (v := ?_) rfl (by kernel_rfl) (by kernel_rfl) (by kernel_rfl) (fun _ _ _ h => h) (Or.inl ⟨by rfl, ?_⟩) hHeld ?_
  rotate_left
  · (intro w hSw; (try dsimp only at hSw); obtain ⟨q0, q1, q2, q3⟩ := hSw.a1.c4; obtain ⟨p0, p1⟩ := hSw.a2.c2; go_simp; try (with_reducible rfl))
  try simp only [Act.put, List.setIfInBounds_toArray, List.set_cons_zero, List.set_cons_succ]
  refine wpAnyH_take (i := 9) (oi := ⟨_, _, _, _, _, _⟩) (v := ?_) rfl (by kernel_rfl) (by kernel_rfl) (by kernel_rfl) (fun _ _ _ h => h) (Or.inl ⟨by rfl, ?_⟩) hHeld ?_
  rotate_left
  · (intro w hSw; (try dsimp only at hSw); go_simp; try (with_reducible rfl))
  try simp only [Act.put, List.setIfInBounds_toArray, List.set_cons_zero, List.set_cons_succ]
  refine wpAnyH_take (i := 10) (oi := ⟨_, _, _, _, _, _⟩) (v := ?_) rfl (by kernel_rfl) (by kernel_rfl) (by kernel_rfl) (fun _ _ _ h => h) (Or.inl ⟨by rfl, ?_⟩) hHeld ?_
  rotate_left
  · (intro w hSw; (try dsimp only at hSw); obtain ⟨q0, q1, q2, q3⟩ := hSw.a1.c4; obtain ⟨p0, p1⟩ := hSw.a2.c2; go_simp; try (with_reducible rfl))
  try simp only [Act.put, List.setIfInBounds_toArray, List.set_cons_zero, List.set_cons_succ]
  refine wpAnyH_take (i := 11) (oi := ⟨_, _, _, _, _, _⟩) (v := ?_) rfl (by kernel_rfl) (by kernel_rfl) (by kernel_rfl) (fun _ _ _ h => h) (Or.inl ⟨by rfl, ?_⟩) hHeld ?_
  rotate_left
  · (intro w hSw; (try dsimp only at hSw); go_simp; try (with_reducible rfl))
  try simp only [Act.put, List.setIfInBounds_toArray, List.set_cons_zero, List.set_cons_succ]
  refine wpAnyH_take (i := 12) (oi := ⟨_, _, _, _, _, _⟩) (v := ?_) rfl (by kernel_rfl) (by kernel_rfl) (by kernel_rfl) (fun _ _ _ h => h) (Or.inl ⟨by rfl, ?_⟩) hHeld ?_
  rotate_left
  · (intro w hSw; (try dsimp only at hSw); go_simp; try (with_reducible rfl))
  try simp only [Act.put, List.setIfInBounds_toArray, List.set_cons_zero, List.set_cons_succ]
  refine wpAnyH_take (i := 13) (oi := ⟨_, _, _, _, _, _⟩) (v := ?_) rfl (by kernel_rfl) (by kernel_rfl) (by kernel_rfl) (fun _ _ _ h => h) (Or.inl ⟨by rfl, ?_⟩) hHeld ?_
  rotate_left
  · (intro w hSw; (try dsimp only at hSw); obtain ⟨q0, q1, q2, q3⟩ := hSw.a1.c4; obtain ⟨p0, p1⟩ := hSw.a2.c2; go_simp; try (with_reducible rfl))
  try simp only [Act.put, List.setIfInBounds_toArray, List.set_cons_zero, List.set_cons_succ]
  refine wpAnyH_take (i := 14) (oi := ⟨_, _, _, _, _, _⟩) (v := ?_) rfl (by kernel_rfl) (by kernel_rfl) (by kernel_rfl) (fun _ _ _ h => h) (Or.inl ⟨by rfl, ?_⟩) hHeld ?_
  rotate_left
  · (intro w hSw; (try dsimp only at hSw); go_simp; try (with_reducible rfl))
  try simp only [Act.put, List.setIfInBounds_toArray, List.set_cons_zero, List.set_cons_succ]
  refine wpAnyH_take (i := 15) (oi := ⟨_, _, _, _, _, _⟩) (v := ?_) rfl (by kernel_rfl) (by kernel_rfl) (by kernel_rfl) (fun _ _ _ h => h) (Or.inl ⟨by rfl, ?_⟩) hHeld ?_
  rotate_left
  · (intro w hSw; (try dsimp only at hSw); go_simp; try (with_reducible rfl))
  try simp only [Act.put, List.setIfInBounds_toArray, List.set_cons_zero, List.set_cons_succ]
  refine wpAnyH_take (i := 16) (oi := ⟨_, _, _, _, _, _⟩) (v := ?_) rfl (by kernel_rfl) (by kernel_rfl) (by kernel_rfl) (fun _ _ _ h => h) (Or.inl ⟨by rfl, ?_⟩) hHeld ?_
  rotate_left
  · (intro w hSw; (try dsimp only at hSw); obtain ⟨q0, q1, q2, q3⟩ := hSw.a1.c4; obtain ⟨p0, p1⟩ := hSw.a2.c2; go_simp; try (with_reducible rfl))
  try simp only [Act.put, List.setIfInBounds_toArray, List.set_cons_zero, List.set_cons_succ]
  refine wpAnyH_ready (rs := [8]) (by kernel_rfl) (by simp) ?_
  refine AllReadyH.cons (o := ⟨_, _, _, _, _, _⟩) rfl (fun K hK => ?_) AllReadyH.nil
  go_simp
  refine (down_any _ _ _ _ (by first | exact Hv.out.1) Hx.out.2.1 Hx.out.2.2.1.1 Hx.out.2.2.1.2).mono ?_
  rintro e w' ⟨rfl, hw⟩
  have hb := below_of_eq hw
  clear hw
  go_wp2_with fail
  refine hK.out _ _ ?_ (fun hHeld2 => ?_)
  · (try dsimp only)
    (first | exact HS.out.drew | exact hHeld.keep hb | exact hHeld.drew | exact hHeld.set2 _ _ | exact hHeld.keep (below_new _ _))
  clear hK K hHeld; have hHeld := hHeld2; clear hHeld2
  try simp only [Act.put, List.setIfInBounds_toArray, List.set_cons_zero, List.set_cons_succ]
  refine wpAnyH_ready (rs := [17]) (by kernel_rfl) (by simp) ?_
  refine AllReadyH.cons (o := ⟨_, _, _, _, _, _⟩) rfl (fun K hK => ?_) AllReadyH.nil
  go_simp
  refine (up_fn _ _ _ _ (by first | exact Hv.out.2) Hx.out.1 Hx.out.2.2.2.1 Hx.out.2.2.2.2).mono ?_
  rintro e w' ⟨rfl, hw⟩
  have hb := below_of_eq hw
  clear hw
  go_wp2_with fail
  refine hK.out _ _ ?_ (fun hHeld2 => ?_)
  · (try dsimp only)
    (first | exact HS.out.drew | exact hHeld.keep hb | exact hHeld.drew | exact hHeld.set2 _ _ | exact hHeld.keep (below_new _ _))
  clear hK K hHeld; have hHeld := hHeld2; clear hHeld2
  try simp only [Act.put, List.setIfInBounds_toArray, List.set_cons_zero, List.set_cons_succ]
  refine wpAnyH_take (i := 18) (oi := ⟨_, _, _, _, _, _⟩) (v := ?_) rfl (by kernel_rfl) (by kernel_rfl) (by kernel_rfl) (fun _ _ _ h => h) (Or.inl ⟨by rfl, ?_⟩) hHeld ?_
  rotate_left
  · (intro w hSw; (try dsimp only at hSw); go_simp; try (with_reducible rfl))
  try simp only [Act.put, List.setIfInBounds_toArray, List.set_cons_zero, List.set_cons_succ]
  refine wpAnyH_ready (rs := [19]) (by kernel_rfl) (by simp) ?_
  refine AllReadyH.cons (o := ⟨_, _, _, _, _, _⟩) rfl (fun K hK => ?_) AllReadyH.nil
  obtain ⟨u0, u1, hrr⟩ := hHeld.rr
  obtain ⟨z0, z1⟩ := hrr.c2
  have y0 := hHeld.fz 0
  have y1 := hHeld.fz 1
  go_simp
  refine hK.out _ _ ?_ (fun hHeld2 => ?_)
  · (try dsimp only)
    (first | exact HS.out.drew | exact hHeld.keep hb | exact hHeld.drew | exact hHeld.set2 _ _ | exact hHeld.keep (below_new _ _))
  clear hK K hHeld; have hHeld := hHeld2; clear hHeld2
  try simp only [Act.put, List.setIfInBounds_toArray, List.set_cons_zero, List.set_cons_succ]
  refine wpAnyH_done (by kernel_rfl) ?_ _
  all_goals
    obtain ⟨k0, k1⟩ := two_set _ _ (.int .i64 (downF v0 f1 t0)) (.int .i64 (upG v1 f0 t1)) z0 z1
    go_wp2
    exact bodyPost_ret (by simp [results, Try.results108, go_sem, k0, k1, goF]; try rfl) rfl ⟨rfl, hHeld.bl⟩
set_option maxHeartbeats 4000000 in
set_option maxRecDepth 100000 in
theorem seeps_any (f0 f1 t0 t1 v0 v1 : Int) (w : World) (hx : Wk.wf ⟨⟨f0, f1⟩, ⟨t0, t1⟩⟩) (hv : amts ⟨v0, v1⟩) :
    Calls Try.prog 124 #[.agg #[.int .i64 f0, .int .i64 f1, .int .i64 t0, .int .i64 t1], .agg #[.int .i64 v0, .int .i64 v1]] w fun e w' => e = .returned (.agg #[.int .i64 (seF ⟨⟨f0, f1⟩, ⟨t0, t1⟩⟩ ⟨v0, v1⟩).lo, .int .i64 (seF ⟨⟨f0, f1⟩, ⟨t0, t1⟩⟩ ⟨v0, v1⟩).hi]) ∧ Below w.heap.size w w' := by
  have B1 := downF_bd hv.2 hx.2.1 hx.2.2.1.1 hx.2.2.1.2
  have B2 := upG_bd hv.1 hx.1 hx.2.2.2.1 hx.2.2.2.2
  have B3 := hv.1.2
  have B4 := hv.2.2
  dsimp only at B1 B2 B3 B4
  obtain ⟨B5, B6⟩ := B1
  obtain ⟨B7, B8⟩ := B2
  have Hx := hide hx; have Hv := hide hv; clear hx hv
  go_enter Try.func124, Try.ntmps124
  go_wp2_with fail
  obtain ⟨W0, HW0⟩ : ∃ W0, Hid (((w.alloc (.cells #[.int .i64 f0, .int .i64 f1, .int .i64 t0, .int .i64 t1] 159)).alloc (.cells #[.int .i64 v0, .int .i64 v1] 23)).alloc (.cells #[.int .i64 0, .int .i64 0] 23) = W0) := ⟨_, hide rfl⟩
  rw [HW0.out]
  have HS : Hid (GC w W0 w.heap.size [.int .i64 f0, .int .i64 f1, .int .i64 t0, .int .i64 t1] (w.heap.size + 1) [.int .i64 v0, .int .i64 v1] (w.heap.size + 1 + 1)) := by
    rw [← HW0.out]; exact hide (gc_new w #[.int .i64 f0, .int .i64 f1, .int .i64 t0, .int .i64 t1] #[.int .i64 v0, .int .i64 v1] #[.int .i64 0, .int .i64 0] _ _ _ _ _ rfl)
  clear HW0
  refine wp_region_held_drew (S := (fun W => GC w W w.heap.size [.int .i64 f0, .int .i64 f1, .int .i64 t0, .int .i64 t1] (w.heap.size + 1) [.int .i64 v0, .int .i64 v1] (w.heap.size + 1 + 1))) (by kernel_rfl) (by (try dsimp only); exact HS.out.drew) (fun hHeld => ?_)
  refine wpAnyH_take (i := 0) (oi := ⟨_, _, _, _, _, _⟩) (v := ?_) rfl (by kernel_rfl) (by kernel_rfl) (by kernel_rfl) (fun _ _ _ h => h) (Or.inl ⟨by rfl, ?_⟩) hHeld ?_
  rotate_left
  · (intro w hSw; (try dsimp only at hSw); go_simp; try (with_reducible rfl))
  try simp only [Act.put, List.setIfInBounds_toArray, List.set_cons_zero, List.set_cons_succ]
  refine wpAnyH_take (i := 1) (oi := ⟨_, _, _, _, _, _⟩) (v := ?_) rfl (by kernel_rfl) (by kernel_rfl) (by kernel_rfl) (fun _ _ _ h => h) (Or.inl ⟨by rfl, ?_⟩) hHeld ?_
  rotate_left
  · (intro w hSw; (try dsimp only at hSw); obtain ⟨q0, q1, q2, q3⟩ := hSw.a1.c4; obtain ⟨p0, p1⟩ := hSw.a2.c2; go_simp; try (with_reducible rfl))
  try simp only [Act.put, List.setIfInBounds_toArray, List.set_cons_zero, List.set_cons_succ]
  refine wpAnyH_take (i := 2) (oi := ⟨_, _, _, _, _, _⟩) (v := ?_) rfl (by kernel_rfl) (by kernel_rfl) (by kernel_rfl) (fun _ _ _ h => h) (Or.inl ⟨by rfl, ?_⟩) hHeld ?_
  rotate_left
  · (intro w hSw; (try dsimp only at hSw); go_simp; try (with_reducible rfl))
  try simp only [Act.put, List.setIfInBounds_toArray, List.set_cons_zero, List.set_cons_succ]
  refine wpAnyH_take (i := 3) (oi := ⟨_, _, _, _, _, _⟩) (v := ?_) rfl (by kernel_rfl) (by kernel_rfl) (by kernel_rfl) (fun _ _ _ h => h) (Or.inl ⟨by rfl, ?_⟩) hHeld ?_
  rotate_left
  · (intro w hSw; (try dsimp only at hSw); obtain ⟨q0, q1, q2, q3⟩ := hSw.a1.c4; obtain ⟨p0, p1⟩ := hSw.a2.c2; go_simp; try (with_reducible rfl))
  try simp only [Act.put, List.setIfInBounds_toArray, List.set_cons_zero, List.set_cons_succ]
  refine wpAnyH_take (i := 4) (oi := ⟨_, _, _, _, _, _⟩) (v := ?_) rfl (by kernel_rfl) (by kernel_rfl) (by kernel_rfl) (fun _ _ _ h => h) (Or.inl ⟨by rfl, ?_⟩) hHeld ?_
  rotate_left
  · (intro w hSw; (try dsimp only at hSw); go_simp; try (with_reducible rfl))
  try simp only [Act.put, List.setIfInBounds_toArray, List.set_cons_zero, List.set_cons_succ]
  refine wpAnyH_take (i := 5) (oi := ⟨_, _, _, _, _, _⟩) (v := ?_) rfl (by kernel_rfl) (by kernel_rfl) (by kernel_rfl) (fun _ _ _ h => h) (Or.inl ⟨by rfl, ?_⟩) hHeld ?_
  rotate_left
  · (intro w hSw; (try dsimp only at hSw); go_simp; try (with_reducible rfl))
  try simp only [Act.put, List.setIfInBounds_toArray, List.set_cons_zero, List.set_cons_succ]
  refine wpAnyH_take (i := 6) (oi := ⟨_, _, _, _, _, _⟩) (v := ?_) rfl (by kernel_rfl) (by kernel_rfl) (by kernel_rfl) (fun _ _ _ h => h) (Or.inl ⟨by rfl, ?_⟩) hHeld ?_
  rotate_left
  · (intro w hSw; (try dsimp only at hSw); obtain ⟨q0, q1, q2, q3⟩ := hSw.a1.c4; obtain ⟨p0, p1⟩ := hSw.a2.c2; go_simp; try (with_reducible rfl))
  try simp only [Act.put, List.setIfInBounds_toArray, List.set_cons_zero, List.set_cons_succ]
  refine wpAnyH_take (i := 7) (oi := ⟨_, _, _, _, _, _⟩) (v := ?_) rfl (by kernel_rfl) (by kernel_rfl) (by kernel_rfl) (fun _ _ _ h => h) (Or.inl ⟨by rfl, ?_⟩) hHeld ?_
  rotate_left
  · (intro w hSw; (try dsimp only at hSw); go_simp; try (with_reducible rfl))
  try simp only [Act.put, List.setIfInBounds_toArray, List.set_cons_zero, List.set_cons_succ]
  refine wpAnyH_take (i := 8) (oi := ⟨_, _, _, _, _, _⟩) (v := ?_) rfl (by kernel_rfl) (by kernel_rfl) (by kernel_rfl) (fun _ _ _ h => h) (Or.inl ⟨by rfl, ?_⟩) hHeld ?_
  rotate_left
  · (intro w hSw; (try dsimp only at hSw); go_simp; try (with_reducible rfl))
  try simp only [Act.put, List.setIfInBounds_toArray, List.set_cons_zero, List.set_cons_succ]
  refine wpAnyH_take (i := 9) (oi := ⟨_, _, _, _, _, _⟩) (v := ?_) rfl (by kernel_rfl) (by kernel_rfl) (by kernel_rfl) (fun _ _ _ h => h) (Or.inl ⟨by rfl, ?_⟩) hHeld ?_
  rotate_left
  · (intro w hSw; (try dsimp only at hSw); obtain ⟨q0, q1, q2, q3⟩ := hSw.a1.c4; obtain ⟨p0, p1⟩ := hSw.a2.c2; go_simp; try (with_reducible rfl))
  try simp only [Act.put, List.setIfInBounds_toArray, List.set_cons_zero, List.set_cons_succ]
  refine wpAnyH_take (i := 12) (oi := ⟨_, _, _, _, _, _⟩) (v := ?_) rfl (by kernel_rfl) (by kernel_rfl) (by kernel_rfl) (fun _ _ _ h => h) (Or.inl ⟨by rfl, ?_⟩) hHeld ?_
  rotate_left
  · (intro w hSw; (try dsimp only at hSw); go_simp; try (with_reducible rfl))
  try simp only [Act.put, List.setIfInBounds_toArray, List.set_cons_zero, List.set_cons_succ]
  refine wpAnyH_take (i := 13) (oi := ⟨_, _, _, _, _, _⟩) (v := ?_) rfl (by kernel_rfl) (by kernel_rfl) (by kernel_rfl) (fun _ _ _ h => h) (Or.inl ⟨by rfl, ?_⟩) hHeld ?_
  rotate_left
  · (intro w hSw; (try dsimp only at hSw); obtain ⟨q0, q1, q2, q3⟩ := hSw.a1.c4; obtain ⟨p0, p1⟩ := hSw.a2.c2; go_simp; try (with_reducible rfl))
  try simp only [Act.put, List.setIfInBounds_toArray, List.set_cons_zero, List.set_cons_succ]
  refine wpAnyH_take (i := 14) (oi := ⟨_, _, _, _, _, _⟩) (v := ?_) rfl (by kernel_rfl) (by kernel_rfl) (by kernel_rfl) (fun _ _ _ h => h) (Or.inl ⟨by rfl, ?_⟩) hHeld ?_
  rotate_left
  · (intro w hSw; (try dsimp only at hSw); go_simp; try (with_reducible rfl))
  try simp only [Act.put, List.setIfInBounds_toArray, List.set_cons_zero, List.set_cons_succ]
  refine wpAnyH_take (i := 15) (oi := ⟨_, _, _, _, _, _⟩) (v := ?_) rfl (by kernel_rfl) (by kernel_rfl) (by kernel_rfl) (fun _ _ _ h => h) (Or.inl ⟨by rfl, ?_⟩) hHeld ?_
  rotate_left
  · (intro w hSw; (try dsimp only at hSw); obtain ⟨q0, q1, q2, q3⟩ := hSw.a1.c4; obtain ⟨p0, p1⟩ := hSw.a2.c2; go_simp; try (with_reducible rfl))
  try simp only [Act.put, List.setIfInBounds_toArray, List.set_cons_zero, List.set_cons_succ]
  refine wpAnyH_take (i := 16) (oi := ⟨_, _, _, _, _, _⟩) (v := ?_) rfl (by kernel_rfl) (by kernel_rfl) (by kernel_rfl) (fun _ _ _ h => h) (Or.inl ⟨by rfl, ?_⟩) hHeld ?_
  rotate_left
  · (intro w hSw; (try dsimp only at hSw); go_simp; try (with_reducible rfl))
  try simp only [Act.put, List.setIfInBounds_toArray, List.set_cons_zero, List.set_cons_succ]
  refine wpAnyH_take (i := 17) (oi := ⟨_, _, _, _, _, _⟩) (v := ?_) rfl (by kernel_rfl) (by kernel_rfl) (by kernel_rfl) (fun _ _ _ h => h) (Or.inl ⟨by rfl, ?_⟩) hHeld ?_
  rotate_left
  · (intro w hSw; (try dsimp only at hSw); go_simp; try (with_reducible rfl))
  try simp only [Act.put, List.setIfInBounds_toArray, List.set_cons_zero, List.set_cons_succ]
  refine wpAnyH_take (i := 18) (oi := ⟨_, _, _, _, _, _⟩) (v := ?_) rfl (by kernel_rfl) (by kernel_rfl) (by kernel_rfl) (fun _ _ _ h => h) (Or.inl ⟨by rfl, ?_⟩) hHeld ?_
  rotate_left
  · (intro w hSw; (try dsimp only at hSw); obtain ⟨q0, q1, q2, q3⟩ := hSw.a1.c4; obtain ⟨p0, p1⟩ := hSw.a2.c2; go_simp; try (with_reducible rfl))
  try simp only [Act.put, List.setIfInBounds_toArray, List.set_cons_zero, List.set_cons_succ]
  refine wpAnyH_take (i := 19) (oi := ⟨_, _, _, _, _, _⟩) (v := ?_) rfl (by kernel_rfl) (by kernel_rfl) (by kernel_rfl) (fun _ _ _ h => h) (Or.inl ⟨by rfl, ?_⟩) hHeld ?_
  rotate_left
  · (intro w hSw; (try dsimp only at hSw); go_simp; try (with_reducible rfl))
  try simp only [Act.put, List.setIfInBounds_toArray, List.set_cons_zero, List.set_cons_succ]
  refine wpAnyH_take (i := 20) (oi := ⟨_, _, _, _, _, _⟩) (v := ?_) rfl (by kernel_rfl) (by kernel_rfl) (by kernel_rfl) (fun _ _ _ h => h) (Or.inl ⟨by rfl, ?_⟩) hHeld ?_
  rotate_left
  · (intro w hSw; (try dsimp only at hSw); go_simp; try (with_reducible rfl))
  try simp only [Act.put, List.setIfInBounds_toArray, List.set_cons_zero, List.set_cons_succ]
  refine wpAnyH_take (i := 21) (oi := ⟨_, _, _, _, _, _⟩) (v := ?_) rfl (by kernel_rfl) (by kernel_rfl) (by kernel_rfl) (fun _ _ _ h => h) (Or.inl ⟨by rfl, ?_⟩) hHeld ?_
  rotate_left
  · (intro w hSw; (try dsimp only at hSw); obtain ⟨q0, q1, q2, q3⟩ := hSw.a1.c4; obtain ⟨p0, p1⟩ := hSw.a2.c2; go_simp; try (with_reducible rfl))
  try simp only [Act.put, List.setIfInBounds_toArray, List.set_cons_zero, List.set_cons_succ]
  refine wpAnyH_ready (rs := [10]) (by kernel_rfl) (by simp) ?_
  refine AllReadyH.cons (o := ⟨_, _, _, _, _, _⟩) rfl (fun K hK => ?_) AllReadyH.nil
  go_simp
  refine (up_fn _ _ _ _ (by first | exact Hv.out.1) Hx.out.1 Hx.out.2.2.2.1 Hx.out.2.2.2.2).mono ?_
  rintro e w' ⟨rfl, hw⟩
  have hb := below_of_eq hw
  clear hw
  go_wp2_with fail
  refine hK.out _ _ ?_ (fun hHeld2 => ?_)
  · (try dsimp only)
    (first | exact HS.out.drew | exact hHeld.keep hb | exact hHeld.drew | exact hHeld.set2 _ _ | exact hHeld.keep (below_new _ _))
  clear hK K hHeld; have hHeld := hHeld2; clear hHeld2
  try simp only [Act.put, List.setIfInBounds_toArray, List.set_cons_zero, List.set_cons_succ]
  refine wpAnyH_take (i := 11) (oi := ⟨_, _, _, _, _, _⟩) (v := ?_) rfl (by kernel_rfl) (by kernel_rfl) (by kernel_rfl) (fun _ _ _ h => h) (Or.inl ⟨by rfl, ?_⟩) hHeld ?_
  rotate_left
  · (intro w hSw; (try dsimp only at hSw); go_simp; try (with_reducible rfl))
  try simp only [Act.put, List.setIfInBounds_toArray, List.set_cons_zero, List.set_cons_succ]
  refine wpAnyH_ready (rs := [22]) (by kernel_rfl) (by simp) ?_
  refine AllReadyH.cons (o := ⟨_, _, _, _, _, _⟩) rfl (fun K hK => ?_) AllReadyH.nil
  go_simp
  refine (down_any _ _ _ _ (by first | exact Hv.out.2) Hx.out.2.1 Hx.out.2.2.1.1 Hx.out.2.2.1.2).mono ?_
  rintro e w' ⟨rfl, hw⟩
  have hb := below_of_eq hw
  clear hw
  go_wp2_with fail
  refine hK.out _ _ ?_ (fun hHeld2 => ?_)
  · (try dsimp only)
    (first | exact HS.out.drew | exact hHeld.keep hb | exact hHeld.drew | exact hHeld.set2 _ _ | exact hHeld.keep (below_new _ _))
  clear hK K hHeld; have hHeld := hHeld2; clear hHeld2
  try simp only [Act.put, List.setIfInBounds_toArray, List.set_cons_zero, List.set_cons_succ]
  refine wpAnyH_take (i := 23) (oi := ⟨_, _, _, _, _, _⟩) (v := ?_) rfl (by kernel_rfl) (by kernel_rfl) (by kernel_rfl) (fun _ _ _ h => h) (Or.inl ⟨by rfl, ?_⟩) hHeld ?_
  rotate_left
  · (intro w hSw; (try dsimp only at hSw); go_simp; try (with_reducible rfl))
  try simp only [Act.put, List.setIfInBounds_toArray, List.set_cons_zero, List.set_cons_succ]
  refine wpAnyH_take (i := 24) (oi := ⟨_, _, _, _, _, _⟩) (v := ?_) rfl (by kernel_rfl) (by kernel_rfl) (by kernel_rfl) (fun _ _ _ h => h) (Or.inl ⟨by rfl, ?_⟩) hHeld ?_
  rotate_left
  · (intro w hSw; (try dsimp only at hSw); go_simp; try (with_reducible rfl))
  try simp only [Act.put, List.setIfInBounds_toArray, List.set_cons_zero, List.set_cons_succ]
  refine wpAnyH_ready (rs := [25]) (by kernel_rfl) (by simp) ?_
  refine AllReadyH.cons (o := ⟨_, _, _, _, _, _⟩) rfl (fun K hK => ?_) AllReadyH.nil
  obtain ⟨u0, u1, hrr⟩ := hHeld.rr
  obtain ⟨z0, z1⟩ := hrr.c2
  have y0 := hHeld.fz 0
  have y1 := hHeld.fz 1
  go_simp
  refine hK.out _ _ ?_ (fun hHeld2 => ?_)
  · (try dsimp only)
    (first | exact HS.out.drew | exact hHeld.keep hb | exact hHeld.drew | exact hHeld.set2 _ _ | exact hHeld.keep (below_new _ _))
  clear hK K hHeld; have hHeld := hHeld2; clear hHeld2
  try simp only [Act.put, List.setIfInBounds_toArray, List.set_cons_zero, List.set_cons_succ]
  refine wpAnyH_done (by kernel_rfl) ?_ _
  all_goals
    obtain ⟨k0, k1⟩ := two_set _ _ (.int .i64 (IntKind.i64.wrap (v0 - upG v0 f0 t1))) (.int .i64 (IntKind.i64.wrap (v1 - downF v1 f1 t0))) z0 z1
    rw [wrapI (by omega), wrapI (by omega)] at k0 k1 hHeld
    rw [wrapI (by omega), wrapI (by omega)]
    go_wp2
    exact bodyPost_ret (by simp [results, Try.results124, go_sem, k0, k1, seF]; try rfl) rfl ⟨rfl, hHeld.bl⟩
end Go.Proofs.Ytmbhnjpaieimbaa
