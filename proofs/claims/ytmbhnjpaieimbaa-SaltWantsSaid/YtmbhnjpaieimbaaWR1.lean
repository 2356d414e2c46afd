/- The reference of channel: what a canal lets through, by contracts. -/
import Derived.Test.YtmbhnjpaieimbaaW5
import Derived.Test.YtmbhnjpaieimbaaR7
set_option linter.unusedVariables false
set_option linter.unusedSimpArgs false
namespace Go.Proofs.Ytmbhnjpaieimbaa
open Go.RowKit Go.Shelf
attribute [local go_sem ↓] Go.wp_at_zero Go.wp_at_succ
set_option maxHeartbeats 1000000 in
theorem rUp_fn (m : Int) (w : World) (h0 : 0 ≤ m) (h1 : m ≤ 1000000000000000) :
    Calls Try.prog 142 #[.int .i64 m] w fun e w' => e = .returned (.int .i64 ((m + 999) / 1000)) ∧ w = w' := by
  go_enter Try.func142, Try.ntmps142
  go_wp2
  go_ret
  refine ⟨ret_int ?_, rfl⟩
  first | rfl | (rw [Int.tdiv_eq_ediv_of_nonneg (by omega)]; first | rfl | exact w64 (by omega))
theorem rFlows_any (a b : Int) (w : World) :
    Calls Try.prog 110 #[.agg #[.int .i64 a, .int .i64 b]] w fun e w' => e = .returned (.bool (Sp.ok 0 13000000 ⟨a, b⟩)) ∧ Below w.heap.size w w' := by
  go_enter Try.func110, Try.ntmps110
  go_wp2_with fail
  refine calls_gen fun W HW => ?_
  have hb : Below w.heap.size w W := by rw [← HW.out]; exact below_new _ _
  refine (spanned_any _ _ _ _ _).mono ?_
  rintro e w' ⟨rfl, hb2⟩
  go_wp2
  go_ret
  exact ⟨rfl, hb.trans (hb2.mono hb.size)⟩
/-- Boxes of through: the canal, what comes in, what is soaked up, two results. -/
structure TS (w : World) (c1 c2 c8 : List Value) (W : World) : Prop where
  a1 : At W w.heap.size c1
  a2 : At W (w.heap.size + 1) c2
  a8 : At W (w.heap.size + 1 + 1 + 1 + 1) c8
  r6 : ∃ x y : Value, At W (w.heap.size + 1 + 1) [x, y]
  r7 : ∃ x y : Value, At W (w.heap.size + 1 + 1 + 1) [x, y]
  f6 : ∀ j : Nat, W.frozen? ⟨w.heap.size + 1 + 1, j, none⟩ = false
  f7 : ∀ j : Nat, W.frozen? ⟨w.heap.size + 1 + 1 + 1, j, none⟩ = false
  bl : Below w.heap.size w W
section
variable {w W W' : World} {c1 c2 c8 : List Value}
theorem TS.kept {R : Nat → Prop} (h : TS w c1 c2 c8 W) (hk : Kept R W W') (hr : ∀ x, x < w.heap.size + 5 → R x) : TS w c1 c2 c8 W' := by
  obtain ⟨x, y, h6⟩ := h.r6
  obtain ⟨x', y', h7⟩ := h.r7
  exact ⟨h.a1.kept hk (hr _ (by omega)), h.a2.kept hk (hr _ (by omega)), h.a8.kept hk (hr _ (by omega)), ⟨x, y, h6.kept hk (hr _ (by omega))⟩, ⟨x', y', h7.kept hk (hr _ (by omega))⟩, fun j => (hk.frozen (p := ⟨_, j, none⟩) (hr _ (by show w.heap.size + 1 + 1 < _; omega)) h6.1).trans (h.f6 j), fun j => (hk.frozen (p := ⟨_, j, none⟩) (hr _ (by show w.heap.size + 1 + 1 + 1 < _; omega)) h7.1).trans (h.f7 j), h.bl.trans (hk.below (fun b hb => hr b (by omega)) h.bl.size)⟩
theorem TS.keep (h : TS w c1 c2 c8 W) (hb : Below W.heap.size W W') : TS w c1 c2 c8 W' := h.kept (Kept.all (fun _ => True) hb) (fun _ _ => trivial)
theorem TS.drew (h : TS w c1 c2 c8 W) : TS w c1 c2 c8 W.drew := ⟨h.a1, h.a2, h.a8, h.r6, h.r7, h.f6, h.f7, h.bl.drew⟩
theorem TS.put (h : TS w c1 c2 c8 W) {b : Nat} (hb : w.heap.size + 5 ≤ b) (j : Nat) (u : Value) : TS w c1 c2 c8 (W.setCell ⟨b, j, none⟩ u) := h.kept (Kept.setCell W ⟨b, j, none⟩ u) (fun x hx e => by simp at e; omega)
theorem TS.set6 (h : TS w c1 c2 c8 W) (u : Value) (j : Nat) : TS w c1 c2 c8 (W.setCell ⟨w.heap.size + 1 + 1, j, none⟩ u) := by
  obtain ⟨x, y, h6⟩ := h.r6
  obtain ⟨x', y', h7⟩ := h.r7
  refine ⟨h.a1.other _ _ (by omega), h.a2.other _ _ (by omega), h.a8.other _ _ (by omega), ?_, ⟨x', y', h7.other _ _ (by omega)⟩, fun j2 => by rw [World.frozen?_setCell]; exact h.f6 j2, fun j2 => by rw [World.frozen?_setCell]; exact h.f7 j2, h.bl.setCell (by simp; omega) _⟩
  match j with
  | 0 => exact ⟨u, y, by simpa using h6.set (j := 0) u (by simp)⟩
  | 1 => exact ⟨x, u, by simpa using h6.set (j := 1) u (by simp)⟩
  | j + 2 => exact ⟨x, y, by simpa [World.setCell] using h6.1, fun i v hv => (World.cell?_setCell_other _ _ _ _ (by
      have : i < 2 := by have := (List.getElem?_eq_some_iff.1 hv).1; simpa using this
      simp)).trans (h6.2 i v hv)⟩
theorem TS.set7 (h : TS w c1 c2 c8 W) (u : Value) (j : Nat) : TS w c1 c2 c8 (W.setCell ⟨w.heap.size + 1 + 1 + 1, j, none⟩ u) := by
  obtain ⟨x, y, h6⟩ := h.r6
  obtain ⟨x', y', h7⟩ := h.r7
  refine ⟨h.a1.other _ _ (by omega), h.a2.other _ _ (by omega), h.a8.other _ _ (by omega), ⟨x, y, h6.other _ _ (by omega)⟩, ?_, fun j2 => by rw [World.frozen?_setCell]; exact h.f6 j2, fun j2 => by rw [World.frozen?_setCell]; exact h.f7 j2, h.bl.setCell (by simp; omega) _⟩
  match j with
  | 0 => exact ⟨u, y', by simpa using h7.set (j := 0) u (by simp)⟩
  | 1 => exact ⟨x', u, by simpa using h7.set (j := 1) u (by simp)⟩
  | j + 2 => exact ⟨x', y', by simpa [World.setCell] using h7.1, fun i v hv => (World.cell?_setCell_other _ _ _ _ (by
      have : i < 2 := by have := (List.getElem?_eq_some_iff.1 hv).1; simpa using this
      simp)).trans (h7.2 i v hv)⟩
theorem TS.hs (h : TS w c1 c2 c8 W) : w.heap.size + 5 ≤ W.heap.size := h.a8.1
end
theorem max_ite (a b : Int) : (if a < b then b else a) = max a b := by rw [Int.max_def]; split <;> split <;> omega
theorem mul_raw {v fill s : Int} (hv : amt v) (hf : amt fill) (h0 : 0 ≤ s) (h1 : s ≤ 1000) :
    IntKind.i64.wrap (max 0 (IntKind.i64.wrap (v - fill)) * IntKind.i64.wrap (1000 - s)) = max 0 (v - fill) * (1000 - s) ∧ 0 ≤ max 0 (v - fill) * (1000 - s) ∧ max 0 (v - fill) * (1000 - s) ≤ 1000000000000000 := by
  obtain ⟨v0, v1⟩ := hv
  obtain ⟨f0, f1⟩ := hf
  obtain ⟨b0, b1⟩ := mul_bd (x := max 0 (v - fill)) (t := 1000 - s) (by omega) (by omega) (by omega) (by omega)
  refine ⟨?_, b0, b1⟩
  rw [wrapI (x := v - fill) (by omega), wrapI (x := 1000 - s) (by omega), wrapI (by omega)]
theorem up_raw {v fill s : Int} (hv : amt v) (hf : amt fill) (h0 : 0 ≤ s) (h1 : s ≤ 1000) :
    IntKind.i64.wrap (max 0 (IntKind.i64.wrap (v - fill)) * IntKind.i64.wrap (1000 - s)) = max 0 (v - fill) * (1000 - s) ∧ 0 ≤ max 0 (v - fill) * (1000 - s) ∧ max 0 (v - fill) * (1000 - s) ≤ 1000000000000000 := mul_raw hv hf h0 h1
theorem down_raw {v fill s : Int} (hv : amt v) (hf : amt fill) (h0 : 0 ≤ s) (h1 : s ≤ 1000) :
    IntKind.i64.wrap ((IntKind.i64.wrap (max 0 (IntKind.i64.wrap (v - fill)) * IntKind.i64.wrap (1000 - s))).tdiv 1000) = downF v fill (1000 - s) := by
  obtain ⟨e, b0, b1⟩ := mul_raw hv hf h0 h1
  rw [e, Int.tdiv_eq_ediv_of_nonneg b0, wrapI (by omega)]
  rfl
set_option maxHeartbeats 4000000 in
set_option maxRecDepth 100000 in
theorem rThrough_any (f s0 s1 l0 l1 v0 v1 : Int) (dry : Bool) (w : World) (hs : 0 ≤ s0 ∧ s0 ≤ s1 ∧ s1 ≤ 1000) (hl : 0 ≤ l0 ∧ l0 ≤ l1 ∧ l1 ≤ 10000000) (hv : amts ⟨v0, v1⟩) :
    Calls Try.prog 135 #[.agg #[.int .i64 f, .int .i64 s0, .int .i64 s1, .int .i64 l0, .int .i64 l1], .agg #[.int .i64 v0, .int .i64 v1], .bool dry] w fun e w' => e = .returned (.tuple #[.agg #[.int .i64 (goF (wkF ⟨s0, s1⟩ ⟨l0, l1⟩ dry) ⟨v0, v1⟩).lo, .int .i64 (goF (wkF ⟨s0, s1⟩ ⟨l0, l1⟩ dry) ⟨v0, v1⟩).hi], .agg #[.int .i64 (seF (wkF ⟨s0, s1⟩ ⟨l0, l1⟩ dry) ⟨v0, v1⟩).lo, .int .i64 (seF (wkF ⟨s0, s1⟩ ⟨l0, l1⟩ dry) ⟨v0, v1⟩).hi]]) ∧ Below w.heap.size w w' := by
  obtain ⟨B0, B1, B2⟩ := hs
  obtain ⟨B3, B4, B5⟩ := hl
  obtain ⟨⟨V0, V1⟩, V2, V3⟩ := hv
  dsimp only at V0 V1 V2 V3
  have hX : ∃ X, X = wkF ⟨s0, s1⟩ ⟨l0, l1⟩ dry := ⟨_, rfl⟩
  obtain ⟨X, hX⟩ := hX
  rw [← hX]
  have hXf : X.fill = if dry then ⟨l0, l1⟩ else ⟨0, 0⟩ := by rw [hX]; rfl
  have hXt : X.thr = ⟨1000 - s1, 1000 - s0⟩ := by rw [hX]; rfl
  have hXw : X.wf := by rw [hX]; cases dry <;> (simp [wkF, Wk.wf, amt]; omega)
  have e1 : X.thr.lo = 1000 - s1 := by rw [hXt]
  have e2 : X.thr.hi = 1000 - s0 := by rw [hXt]
  have D1 := hide (show IntKind.i64.wrap ((IntKind.i64.wrap (max 0 (IntKind.i64.wrap (v0 - X.fill.hi)) * IntKind.i64.wrap (1000 - s1))).tdiv 1000) = (goF X ⟨v0, v1⟩).lo from by rw [goF, e1]; exact down_raw (v := v0) (fill := X.fill.hi) (s := s1) ⟨V0, V1⟩ hXw.2.1 (by omega) (by omega))
  have D2 := hide (show IntKind.i64.wrap ((IntKind.i64.wrap (max 0 (IntKind.i64.wrap (v1 - X.fill.hi)) * IntKind.i64.wrap (1000 - s1))).tdiv 1000) = downF v1 X.fill.hi X.thr.lo from by rw [e1]; exact down_raw (v := v1) (fill := X.fill.hi) (s := s1) ⟨V2, V3⟩ hXw.2.1 (by omega) (by omega))
  have U1 := hide (up_raw (v := v1) (fill := X.fill.lo) (s := s0) ⟨V2, V3⟩ hXw.1 (by omega) (by omega))
  have U2 := hide (up_raw (v := v0) (fill := X.fill.lo) (s := s0) ⟨V0, V1⟩ hXw.1 (by omega) (by omega))
  have hb1 := upG_bd (v := v0) (fill := X.fill.lo) (thr := X.thr.hi) ⟨V0, V1⟩ hXw.1 hXw.2.2.2.1 hXw.2.2.2.2
  have hb2 := downF_bd (v := v1) (fill := X.fill.hi) (thr := X.thr.lo) ⟨V2, V3⟩ hXw.2.1 hXw.2.2.1.1 hXw.2.2.1.2
  have S1 := hide (show IntKind.i64.wrap (v0 - (max 0 (v0 - X.fill.lo) * (1000 - s0) + 999) / 1000) = (seF X ⟨v0, v1⟩).lo from by rw [← e2]; exact wrapI (by unfold upG at hb1; omega))
  have S2 := hide (show IntKind.i64.wrap (v1 - downF v1 X.fill.hi X.thr.lo) = (seF X ⟨v0, v1⟩).hi from wrapI (by omega))
  have G1 : (max 0 (v1 - X.fill.lo) * (1000 - s0) + 999) / 1000 = (goF X ⟨v0, v1⟩).hi := by rw [← e2]; rfl
  have G1 := hide G1
  clear hX hXt hXw e1 e2 hb1 hb2
  cases dry
  all_goals
    have HXf := hide hXf
    clear hXf
    go_enter Try.func135, Try.ntmps135
    go_wp2_with fail
    obtain ⟨W0, HW0⟩ : ∃ W0, Hid ((((((w.alloc (.cells #[.int .i64 f, .int .i64 s0, .int .i64 s1, .int .i64 l0, .int .i64 l1] 127)).alloc (.cells #[.int .i64 v0, .int .i64 v1] 23)).alloc (.cells #[.int .i64 0, .int .i64 0] 23)).alloc (.cells #[.int .i64 0, .int .i64 0] 23)).alloc (.cells #[.int .i64 X.fill.lo, .int .i64 X.fill.hi] 23)) = W0) := ⟨_, hide rfl⟩
    have HS : Hid (TS w [.int .i64 f, .int .i64 s0, .int .i64 s1, .int .i64 l0, .int .i64 l1] [.int .i64 v0, .int .i64 v1] [.int .i64 X.fill.lo, .int .i64 X.fill.hi] W0) := by
      rw [← HW0.out]
      refine hide ⟨((((At.new w #[.int .i64 f, .int .i64 s0, .int .i64 s1, .int .i64 l0, .int .i64 l1] _ _ rfl _ rfl).alloc _).alloc _).alloc _).alloc _, (((At.new _ #[.int .i64 v0, .int .i64 v1] _ _ (by simp) _ rfl).alloc _).alloc _).alloc _, At.new _ #[.int .i64 X.fill.lo, .int .i64 X.fill.hi] _ _ (by simp) _ rfl,
        ⟨_, _, ((At.new _ #[.int .i64 0, .int .i64 0] _ _ (by simp) _ rfl).alloc _).alloc _⟩, ⟨_, _, (At.new _ #[.int .i64 0, .int .i64 0] _ _ (by simp) _ rfl).alloc _⟩, fun j => ?_, fun j => ?_, ((((below_new w _).alloc (by simp) _).alloc (by simp; omega) _).alloc (by simp; omega) _).alloc (by simp; omega) _⟩
      · exact (((below_new _ _).alloc (by simp) _).frozen (p := ⟨w.heap.size + 1 + 1, j, none⟩) (by simp)).trans (At.frozen_new _ _ _ _ (by simp) j)
      · exact ((below_new _ _).frozen (p := ⟨w.heap.size + 1 + 1 + 1, j, none⟩) (by simp)).trans (At.frozen_new _ _ _ _ (by simp) j)
    rw [HXf.out] at HW0
    simp only [if_true, if_false, Bool.false_eq_true] at HW0
    rw [HW0.out]
    clear HW0
    refine wp_mono (Q := onNormal (fun a1 W1 => ∃ b9 : Nat, a1.tmps.size = 73 ∧ a1.defers = [] ∧ slot a1 3 = .pointer (some ⟨w.heap.size, 0, none⟩) ∧ slot a1 4 = .pointer (some ⟨w.heap.size + 1, 0, none⟩) ∧ slot a1 6 = .pointer (some ⟨w.heap.size + 1 + 1, 0, none⟩) ∧ slot a1 7 = .pointer (some ⟨w.heap.size + 1 + 1 + 1, 0, none⟩) ∧ slot a1 8 = .pointer (some ⟨w.heap.size + 1 + 1 + 1 + 1, 0, none⟩) ∧ slot a1 9 = .pointer (some ⟨b9, 0, none⟩) ∧ At W1 b9 [.int .i64 (goF X ⟨v0, v1⟩).lo, .int .i64 (goF X ⟨v0, v1⟩).hi] ∧ W0.heap.size ≤ b9 ∧ Below W0.heap.size W0 W1)) ?_ ?_
    · refine wp_region_held_drew (S := (fun W => Below W0.heap.size W0 W)) (by kernel_rfl) (by (try dsimp only); exact (Below.refl _ _).drew) (fun hHeld => ?_)
      refine wpAnyH_take (i := 0) (oi := ⟨_, _, _, _, _, _⟩) (v := ?_) rfl (by kernel_rfl) (by kernel_rfl) (by kernel_rfl) (fun _ _ _ h => h) (Or.inl ⟨by rfl, ?_⟩) hHeld ?_
      rotate_left
      · (intro w hSw; (try dsimp only at hSw); go_simp; try (with_reducible rfl))
      try simp only [Act.put, List.setIfInBounds_toArray, List.set_cons_zero, List.set_cons_succ]
      refine wpAnyH_take (i := 1) (oi := ⟨_, _, _, _, _, _⟩) (v := ?_) rfl (by kernel_rfl) (by kernel_rfl) (by kernel_rfl) (fun _ _ _ h => h) (Or.inl ⟨by rfl, ?_⟩) hHeld ?_
      rotate_left
      · (intro w hSw; (try dsimp only at hSw); have hT := HS.out.keep hSw; obtain ⟨q0, q1, q2, q3, q4⟩ := hT.a1.c5; obtain ⟨p0, p1⟩ := hT.a2.c2; obtain ⟨g0, g1⟩ := hT.a8.c2; go_simp; try (with_reducible rfl))
      try simp only [Act.put, List.setIfInBounds_toArray, List.set_cons_zero, List.set_cons_succ]
      refine wpAnyH_take (i := 2) (oi := ⟨_, _, _, _, _, _⟩) (v := ?_) rfl (by kernel_rfl) (by kernel_rfl) (by kernel_rfl) (fun _ _ _ h => h) (Or.inl ⟨by rfl, ?_⟩) hHeld ?_
      rotate_left
      · (intro w hSw; (try dsimp only at hSw); go_simp; try (with_reducible rfl))
      try simp only [Act.put, List.setIfInBounds_toArray, List.set_cons_zero, List.set_cons_succ]
      refine wpAnyH_take (i := 3) (oi := ⟨_, _, _, _, _, _⟩) (v := ?_) rfl (by kernel_rfl) (by kernel_rfl) (by kernel_rfl) (fun _ _ _ h => h) (Or.inl ⟨by rfl, ?_⟩) hHeld ?_
      rotate_left
      · (intro w hSw; (try dsimp only at hSw); have hT := HS.out.keep hSw; obtain ⟨q0, q1, q2, q3, q4⟩ := hT.a1.c5; obtain ⟨p0, p1⟩ := hT.a2.c2; obtain ⟨g0, g1⟩ := hT.a8.c2; go_simp; try (with_reducible rfl))
      try simp only [Act.put, List.setIfInBounds_toArray, List.set_cons_zero, List.set_cons_succ]
      refine wpAnyH_take (i := 4) (oi := ⟨_, _, _, _, _, _⟩) (v := ?_) rfl (by kernel_rfl) (by kernel_rfl) (by kernel_rfl) (fun _ _ _ h => h) (Or.inl ⟨by rfl, ?_⟩) hHeld ?_
      rotate_left
      · (intro w hSw; (try dsimp only at hSw); go_simp; try (with_reducible rfl))
      try simp only [Act.put, List.setIfInBounds_toArray, List.set_cons_zero, List.set_cons_succ]
      refine wpAnyH_take (i := 5) (oi := ⟨_, _, _, _, _, _⟩) (v := ?_) rfl (by kernel_rfl) (by kernel_rfl) (by kernel_rfl) (fun _ _ _ h => h) (Or.inl ⟨by rfl, ?_⟩) hHeld ?_
      rotate_left
      · (intro w hSw; (try dsimp only at hSw); go_simp; rw [max_ite]; try (with_reducible rfl))
      try simp only [Act.put, List.setIfInBounds_toArray, List.set_cons_zero, List.set_cons_succ]
      refine wpAnyH_take (i := 6) (oi := ⟨_, _, _, _, _, _⟩) (v := ?_) rfl (by kernel_rfl) (by kernel_rfl) (by kernel_rfl) (fun _ _ _ h => h) (Or.inl ⟨by rfl, ?_⟩) hHeld ?_
      rotate_left
      · (intro w hSw; (try dsimp only at hSw); go_simp; try (with_reducible rfl))
      try simp only [Act.put, List.setIfInBounds_toArray, List.set_cons_zero, List.set_cons_succ]
      refine wpAnyH_take (i := 7) (oi := ⟨_, _, _, _, _, _⟩) (v := ?_) rfl (by kernel_rfl) (by kernel_rfl) (by kernel_rfl) (fun _ _ _ h => h) (Or.inl ⟨by rfl, ?_⟩) hHeld ?_
      rotate_left
      · (intro w hSw; (try dsimp only at hSw); go_simp; try (with_reducible rfl))
      try simp only [Act.put, List.setIfInBounds_toArray, List.set_cons_zero, List.set_cons_succ]
      refine wpAnyH_take (i := 8) (oi := ⟨_, _, _, _, _, _⟩) (v := ?_) rfl (by kernel_rfl) (by kernel_rfl) (by kernel_rfl) (fun _ _ _ h => h) (Or.inl ⟨by rfl, ?_⟩) hHeld ?_
      rotate_left
      · (intro w hSw; (try dsimp only at hSw); have hT := HS.out.keep hSw; obtain ⟨q0, q1, q2, q3, q4⟩ := hT.a1.c5; obtain ⟨p0, p1⟩ := hT.a2.c2; obtain ⟨g0, g1⟩ := hT.a8.c2; go_simp; try (with_reducible rfl))
      try simp only [Act.put, List.setIfInBounds_toArray, List.set_cons_zero, List.set_cons_succ]
      refine wpAnyH_take (i := 9) (oi := ⟨_, _, _, _, _, _⟩) (v := ?_) rfl (by kernel_rfl) (by kernel_rfl) (by kernel_rfl) (fun _ _ _ h => h) (Or.inl ⟨by rfl, ?_⟩) hHeld ?_
      rotate_left
      · (intro w hSw; (try dsimp only at hSw); go_simp; try (with_reducible rfl))
      try simp only [Act.put, List.setIfInBounds_toArray, List.set_cons_zero, List.set_cons_succ]
      refine wpAnyH_take (i := 10) (oi := ⟨_, _, _, _, _, _⟩) (v := ?_) rfl (by kernel_rfl) (by kernel_rfl) (by kernel_rfl) (fun _ _ _ h => h) (Or.inl ⟨by rfl, ?_⟩) hHeld ?_
      rotate_left
      · (intro w hSw; (try dsimp only at hSw); go_simp; try (with_reducible rfl))
      try simp only [Act.put, List.setIfInBounds_toArray, List.set_cons_zero, List.set_cons_succ]
      refine wpAnyH_take (i := 11) (oi := ⟨_, _, _, _, _, _⟩) (v := ?_) rfl (by kernel_rfl) (by kernel_rfl) (by kernel_rfl) (fun _ _ _ h => h) (Or.inl ⟨by rfl, ?_⟩) hHeld ?_
      rotate_left
      · (intro w hSw; (try dsimp only at hSw); go_simp; try (with_reducible rfl))
      try simp only [Act.put, List.setIfInBounds_toArray, List.set_cons_zero, List.set_cons_succ]
      refine wpAnyH_take (i := 12) (oi := ⟨_, _, _, _, _, _⟩) (v := ?_) rfl (by kernel_rfl) (by kernel_rfl) (by kernel_rfl) (fun _ _ _ h => h) (Or.inl ⟨by rfl, ?_⟩) hHeld ?_
      rotate_left
      · (intro w hSw; (try dsimp only at hSw); go_simp; try (with_reducible rfl))
      try simp only [Act.put, List.setIfInBounds_toArray, List.set_cons_zero, List.set_cons_succ]
      refine wpAnyH_take (i := 13) (oi := ⟨_, _, _, _, _, _⟩) (v := ?_) rfl (by kernel_rfl) (by kernel_rfl) (by kernel_rfl) (fun _ _ _ h => h) (Or.inl ⟨by rfl, ?_⟩) hHeld ?_
      rotate_left
      · (intro w hSw; (try dsimp only at hSw); have hT := HS.out.keep hSw; obtain ⟨q0, q1, q2, q3, q4⟩ := hT.a1.c5; obtain ⟨p0, p1⟩ := hT.a2.c2; obtain ⟨g0, g1⟩ := hT.a8.c2; go_simp; try (with_reducible rfl))
      try simp only [Act.put, List.setIfInBounds_toArray, List.set_cons_zero, List.set_cons_succ]
      refine wpAnyH_take (i := 14) (oi := ⟨_, _, _, _, _, _⟩) (v := ?_) rfl (by kernel_rfl) (by kernel_rfl) (by kernel_rfl) (fun _ _ _ h => h) (Or.inl ⟨by rfl, ?_⟩) hHeld ?_
      rotate_left
      · (intro w hSw; (try dsimp only at hSw); go_simp; try (with_reducible rfl))
      try simp only [Act.put, List.setIfInBounds_toArray, List.set_cons_zero, List.set_cons_succ]
      refine wpAnyH_take (i := 15) (oi := ⟨_, _, _, _, _, _⟩) (v := ?_) rfl (by kernel_rfl) (by kernel_rfl) (by kernel_rfl) (fun _ _ _ h => h) (Or.inl ⟨by rfl, ?_⟩) hHeld ?_
      rotate_left
      · (intro w hSw; (try dsimp only at hSw); have hT := HS.out.keep hSw; obtain ⟨q0, q1, q2, q3, q4⟩ := hT.a1.c5; obtain ⟨p0, p1⟩ := hT.a2.c2; obtain ⟨g0, g1⟩ := hT.a8.c2; go_simp; try (with_reducible rfl))
      try simp only [Act.put, List.setIfInBounds_toArray, List.set_cons_zero, List.set_cons_succ]
      refine wpAnyH_take (i := 16) (oi := ⟨_, _, _, _, _, _⟩) (v := ?_) rfl (by kernel_rfl) (by kernel_rfl) (by kernel_rfl) (fun _ _ _ h => h) (Or.inl ⟨by rfl, ?_⟩) hHeld ?_
      rotate_left
      · (intro w hSw; (try dsimp only at hSw); go_simp; try (with_reducible rfl))
      try simp only [Act.put, List.setIfInBounds_toArray, List.set_cons_zero, List.set_cons_succ]
      refine wpAnyH_take (i := 17) (oi := ⟨_, _, _, _, _, _⟩) (v := ?_) rfl (by kernel_rfl) (by kernel_rfl) (by kernel_rfl) (fun _ _ _ h => h) (Or.inl ⟨by rfl, ?_⟩) hHeld ?_
      rotate_left
      · (intro w hSw; (try dsimp only at hSw); go_simp; rw [max_ite]; try (with_reducible rfl))
      try simp only [Act.put, List.setIfInBounds_toArray, List.set_cons_zero, List.set_cons_succ]
      refine wpAnyH_take (i := 18) (oi := ⟨_, _, _, _, _, _⟩) (v := ?_) rfl (by kernel_rfl) (by kernel_rfl) (by kernel_rfl) (fun _ _ _ h => h) (Or.inl ⟨by rfl, ?_⟩) hHeld ?_
      rotate_left
      · (intro w hSw; (try dsimp only at hSw); go_simp; try (with_reducible rfl))
      try simp only [Act.put, List.setIfInBounds_toArray, List.set_cons_zero, List.set_cons_succ]
      refine wpAnyH_take (i := 19) (oi := ⟨_, _, _, _, _, _⟩) (v := ?_) rfl (by kernel_rfl) (by kernel_rfl) (by kernel_rfl) (fun _ _ _ h => h) (Or.inl ⟨by rfl, ?_⟩) hHeld ?_
      rotate_left
      · (intro w hSw; (try dsimp only at hSw); go_simp; try (with_reducible rfl))
      try simp only [Act.put, List.setIfInBounds_toArray, List.set_cons_zero, List.set_cons_succ]
      refine wpAnyH_take (i := 20) (oi := ⟨_, _, _, _, _, _⟩) (v := ?_) rfl (by kernel_rfl) (by kernel_rfl) (by kernel_rfl) (fun _ _ _ h => h) (Or.inl ⟨by rfl, ?_⟩) hHeld ?_
      rotate_left
      · (intro w hSw; (try dsimp only at hSw); have hT := HS.out.keep hSw; obtain ⟨q0, q1, q2, q3, q4⟩ := hT.a1.c5; obtain ⟨p0, p1⟩ := hT.a2.c2; obtain ⟨g0, g1⟩ := hT.a8.c2; go_simp; try (with_reducible rfl))
      try simp only [Act.put, List.setIfInBounds_toArray, List.set_cons_zero, List.set_cons_succ]
      refine wpAnyH_take (i := 21) (oi := ⟨_, _, _, _, _, _⟩) (v := ?_) rfl (by kernel_rfl) (by kernel_rfl) (by kernel_rfl) (fun _ _ _ h => h) (Or.inl ⟨by rfl, ?_⟩) hHeld ?_
      rotate_left
      · (intro w hSw; (try dsimp only at hSw); go_simp; try (with_reducible rfl))
      try simp only [Act.put, List.setIfInBounds_toArray, List.set_cons_zero, List.set_cons_succ]
      refine wpAnyH_take (i := 22) (oi := ⟨_, _, _, _, _, _⟩) (v := ?_) rfl (by kernel_rfl) (by kernel_rfl) (by kernel_rfl) (fun _ _ _ h => h) (Or.inl ⟨by rfl, ?_⟩) hHeld ?_
      rotate_left
      · (intro w hSw; (try dsimp only at hSw); go_simp; try (with_reducible rfl))
      try simp only [Act.put, List.setIfInBounds_toArray, List.set_cons_zero, List.set_cons_succ]
      refine wpAnyH_ready (rs := [23, 25]) (by kernel_rfl) (by simp) ?_
      refine AllReadyH.cons (o := ⟨_, _, _, _, _, _⟩) rfl (fun K hK => ?_) ?_
      ·
        go_simp
        refine (rUp_fn _ _ (by rw [U1.out.1]; exact U1.out.2.1) (by rw [U1.out.1]; exact U1.out.2.2)).mono ?_
        rintro e w' ⟨rfl, hw⟩
        have hb := below_of_eq hw
        clear hw
        try (have h9 := h9.below hb)
        try (have g9 := frz_below g9 h9b hb)
        try (have h9b := Nat.lt_of_lt_of_le h9b hb.size)
        go_wp2_with fail
        refine hK.out _ _ ?_ (fun hHeld2 => ?_)
        · (try dsimp only)
          (first | exact hHeld | exact hHeld.trans (hb.mono hHeld.size) | exact hHeld.trans ((below_new _ _).mono hHeld.size) | exact hHeld.drew | exact (hHeld.setCell hge _).setCell hge _)
        clear hK K hHeld; have hHeld := hHeld2; clear hHeld2
        try simp only [Act.put, List.setIfInBounds_toArray, List.set_cons_zero, List.set_cons_succ]
        refine wpAnyH_take (i := 24) (oi := ⟨_, _, _, _, _, _⟩) (v := ?_) rfl (by kernel_rfl) (by kernel_rfl) (by kernel_rfl) (fun _ _ _ h => h) (Or.inl ⟨by rfl, ?_⟩) hHeld ?_
        rotate_left
        · (intro w hSw; (try dsimp only at hSw); go_simp; try (with_reducible rfl))
        try simp only [Act.put, List.setIfInBounds_toArray, List.set_cons_zero, List.set_cons_succ]
        refine wpAnyH_ready (rs := [25]) (by kernel_rfl) (by simp) ?_
        refine AllReadyH.cons (o := ⟨_, _, _, _, _, _⟩) rfl (fun K hK => ?_) AllReadyH.nil
        go_simp
        first | refine gen_new ?_ | refine gen_newD ?_
        intro wA h9 g9 hb h9b
        have hge := hHeld.size
        refine hK.out _ _ ?_ (fun hHeld2 => ?_)
        · (try dsimp only)
          (first | exact hHeld | exact hHeld.trans (hb.mono hHeld.size) | exact hHeld.trans ((below_new _ _).mono hHeld.size) | exact hHeld.drew | exact (hHeld.setCell hge _).setCell hge _)
        clear hK K hHeld; have hHeld := hHeld2; clear hHeld2
        try simp only [Act.put, List.setIfInBounds_toArray, List.set_cons_zero, List.set_cons_succ]
        refine wpAnyH_ready (rs := [26]) (by kernel_rfl) (by simp) ?_
        refine AllReadyH.cons (o := ⟨_, _, _, _, _, _⟩) rfl (fun K hK => ?_) AllReadyH.nil
        obtain ⟨z0, z1⟩ := h9.c2
        have y0 := g9 0
        have y1 := g9 1
        have hH := hHeld
        go_simp
        refine hK.out _ _ ?_ (fun hHeld2 => ?_)
        · (try dsimp only)
          (first | exact hHeld | exact hHeld.trans (hb.mono hHeld.size) | exact hHeld.trans ((below_new _ _).mono hHeld.size) | exact hHeld.drew | exact (hHeld.setCell hge _).setCell hge _)
        clear hK K hHeld; have hHeld := hHeld2; clear hHeld2
        try simp only [Act.put, List.setIfInBounds_toArray, List.set_cons_zero, List.set_cons_succ]
        refine wpAnyH_done (by kernel_rfl) ?_ _
        rw [D1.out, U1.out.1, G1.out]
        refine ⟨_, by first | rfl | trivial, by first | rfl | trivial, by first | rfl | trivial, by first | rfl | trivial, by first | rfl | trivial, by first | rfl | trivial, by first | rfl | trivial, by first | rfl | trivial, ?_, hge, (hH.setCell hge _).setCell hge _⟩
        simpa using (h9.set (j := 0) (.int .i64 (goF X ⟨v0, v1⟩).lo) (by simp)).set (j := 1) (.int .i64 (goF X ⟨v0, v1⟩).hi) (by simp)
      refine AllReadyH.cons (o := ⟨_, _, _, _, _, _⟩) rfl (fun K hK => ?_) AllReadyH.nil
      go_simp
      first | refine gen_new ?_ | refine gen_newD ?_
      intro wA h9 g9 hb h9b
      have hge := hHeld.size
      refine hK.out _ _ ?_ (fun hHeld2 => ?_)
      · (try dsimp only)
        (first | exact hHeld | exact hHeld.trans (hb.mono hHeld.size) | exact hHeld.trans ((below_new _ _).mono hHeld.size) | exact hHeld.drew | exact (hHeld.setCell hge _).setCell hge _)
      clear hK K hHeld; have hHeld := hHeld2; clear hHeld2
      try simp only [Act.put, List.setIfInBounds_toArray, List.set_cons_zero, List.set_cons_succ]
      refine wpAnyH_ready (rs := [23]) (by kernel_rfl) (by simp) ?_
      refine AllReadyH.cons (o := ⟨_, _, _, _, _, _⟩) rfl (fun K hK => ?_) AllReadyH.nil
      go_simp
      refine (rUp_fn _ _ (by rw [U1.out.1]; exact U1.out.2.1) (by rw [U1.out.1]; exact U1.out.2.2)).mono ?_
      rintro e w' ⟨rfl, hw⟩
      have hb := below_of_eq hw
      clear hw
      try (have h9 := h9.below hb)
      try (have g9 := frz_below g9 h9b hb)
      try (have h9b := Nat.lt_of_lt_of_le h9b hb.size)
      go_wp2_with fail
      refine hK.out _ _ ?_ (fun hHeld2 => ?_)
      · (try dsimp only)
        (first | exact hHeld | exact hHeld.trans (hb.mono hHeld.size) | exact hHeld.trans ((below_new _ _).mono hHeld.size) | exact hHeld.drew | exact (hHeld.setCell hge _).setCell hge _)
      clear hK K hHeld; have hHeld := hHeld2; clear hHeld2
      try simp only [Act.put, List.setIfInBounds_toArray, List.set_cons_zero, List.set_cons_succ]
      refine wpAnyH_take (i := 24) (oi := ⟨_, _, _, _, _, _⟩) (v := ?_) rfl (by kernel_rfl) (by kernel_rfl) (by kernel_rfl) (fun _ _ _ h => h) (Or.inl ⟨by rfl, ?_⟩) hHeld ?_
      rotate_left
      · (intro w hSw; (try dsimp only at hSw); go_simp; try (with_reducible rfl))
      try simp only [Act.put, List.setIfInBounds_toArray, List.set_cons_zero, List.set_cons_succ]
      refine wpAnyH_ready (rs := [26]) (by kernel_rfl) (by simp) ?_
      refine AllReadyH.cons (o := ⟨_, _, _, _, _, _⟩) rfl (fun K hK => ?_) AllReadyH.nil
      obtain ⟨z0, z1⟩ := h9.c2
      have y0 := g9 0
      have y1 := g9 1
      have hH := hHeld
      go_simp
      refine hK.out _ _ ?_ (fun hHeld2 => ?_)
      · (try dsimp only)
        (first | exact hHeld | exact hHeld.trans (hb.mono hHeld.size) | exact hHeld.trans ((below_new _ _).mono hHeld.size) | exact hHeld.drew | exact (hHeld.setCell hge _).setCell hge _)
      clear hK K hHeld; have hHeld := hHeld2; clear hHeld2
      try simp only [Act.put, List.setIfInBounds_toArray, List.set_cons_zero, List.set_cons_succ]
      refine wpAnyH_done (by kernel_rfl) ?_ _
      rw [D1.out, U1.out.1, G1.out]
      refine ⟨_, by first | rfl | trivial, by first | rfl | trivial, by first | rfl | trivial, by first | rfl | trivial, by first | rfl | trivial, by first | rfl | trivial, by first | rfl | trivial, by first | rfl | trivial, ?_, hge, (hH.setCell hge _).setCell hge _⟩
      simpa using (h9.set (j := 0) (.int .i64 (goF X ⟨v0, v1⟩).lo) (by simp)).set (j := 1) (.int .i64 (goF X ⟨v0, v1⟩).hi) (by simp)
    rintro e a1 W1 hq
    cases e with
    | normal =>
      obtain ⟨b9, hs, hd, s3, s4, s6, s7, s8, s9, h9, hge9, hB1⟩ := hq
      rw [act_eq hs hd]
      obtain ⟨u, hu⟩ : ∃ u, u = slot a1 := ⟨_, rfl⟩
      rw [← hu] at s3 s4 s6 s7 s8 s9 ⊢
      have he : ({ tmps := ((List.range 73).map u).toArray, defers := [] } : Act) = { tmps := #[(u 0), (u 1), (u 2), (u 3), (u 4), (u 5), (u 6), (u 7), (u 8), (u 9), (u 10), (u 11), (u 12), (u 13), (u 14), (u 15), (u 16), (u 17), (u 18), (u 19), (u 20), (u 21), (u 22), (u 23), (u 24), (u 25), (u 26), (u 27), (u 28), (u 29), (u 30), (u 31), (u 32), (u 33), (u 34), (u 35), (u 36), (u 37), (u 38), (u 39), (u 40), (u 41), (u 42), (u 43), (u 44), (u 45), (u 46), (u 47), (u 48), (u 49), (u 50), (u 51), (u 52), (u 53), (u 54), (u 55), (u 56), (u 57), (u 58), (u 59), (u 60), (u 61), (u 62), (u 63), (u 64), (u 65), (u 66), (u 67), (u 68), (u 69), (u 70), (u 71), (u 72)], defers := [] } := rfl
      rw [he, s3, s4, s6, s7, s8, s9]
      clear he hs hd hu s3 s4 s6 s7 s8 s9
      have HT1 := hide (HS.out.keep hB1)
      go_wp2_with fail
      refine wp_mono (Q := onNormal (fun a2 W2 => ∃ b10 : Nat, a2.tmps.size = 73 ∧ a2.defers = [] ∧ slot a2 3 = .pointer (some ⟨w.heap.size, 0, none⟩) ∧ slot a2 4 = .pointer (some ⟨w.heap.size + 1, 0, none⟩) ∧ slot a2 6 = .pointer (some ⟨w.heap.size + 1 + 1, 0, none⟩) ∧ slot a2 7 = .pointer (some ⟨w.heap.size + 1 + 1 + 1, 0, none⟩) ∧ slot a2 8 = .pointer (some ⟨w.heap.size + 1 + 1 + 1 + 1, 0, none⟩) ∧ slot a2 9 = .pointer (some ⟨b9, 0, none⟩) ∧ slot a2 10 = .pointer (some ⟨b10, 0, none⟩) ∧ At W2 b10 [.int .i64 (seF X ⟨v0, v1⟩).lo, .int .i64 (seF X ⟨v0, v1⟩).hi] ∧ W1.heap.size ≤ b10 ∧ Below W1.heap.size W1 W2)) ?_ ?_
      · have h9x := hide h9
        clear h9
        refine wp_region_held_drew (S := (fun W => Below W1.heap.size W1 W)) (by kernel_rfl) (by (try dsimp only); exact (Below.refl _ _).drew) (fun hHeld => ?_)
        refine wpAnyH_take (i := 0) (oi := ⟨_, _, _, _, _, _⟩) (v := ?_) rfl (by kernel_rfl) (by kernel_rfl) (by kernel_rfl) (fun _ _ _ h => h) (Or.inl ⟨by rfl, ?_⟩) hHeld ?_
        rotate_left
        · (intro w hSw; (try dsimp only at hSw); go_simp; try (with_reducible rfl))
        try simp only [Act.put, List.setIfInBounds_toArray, List.set_cons_zero, List.set_cons_succ]
        refine wpAnyH_take (i := 1) (oi := ⟨_, _, _, _, _, _⟩) (v := ?_) rfl (by kernel_rfl) (by kernel_rfl) (by kernel_rfl) (fun _ _ _ h => h) (Or.inl ⟨by rfl, ?_⟩) hHeld ?_
        rotate_left
        · (intro w hSw; (try dsimp only at hSw); have hT := HT1.out.keep hSw; obtain ⟨q0, q1, q2, q3, q4⟩ := hT.a1.c5; obtain ⟨p0, p1⟩ := hT.a2.c2; obtain ⟨g0, g1⟩ := hT.a8.c2; go_simp; try (with_reducible rfl))
        try simp only [Act.put, List.setIfInBounds_toArray, List.set_cons_zero, List.set_cons_succ]
        refine wpAnyH_take (i := 2) (oi := ⟨_, _, _, _, _, _⟩) (v := ?_) rfl (by kernel_rfl) (by kernel_rfl) (by kernel_rfl) (fun _ _ _ h => h) (Or.inl ⟨by rfl, ?_⟩) hHeld ?_
        rotate_left
        · (intro w hSw; (try dsimp only at hSw); go_simp; try (with_reducible rfl))
        try simp only [Act.put, List.setIfInBounds_toArray, List.set_cons_zero, List.set_cons_succ]
        refine wpAnyH_take (i := 3) (oi := ⟨_, _, _, _, _, _⟩) (v := ?_) rfl (by kernel_rfl) (by kernel_rfl) (by kernel_rfl) (fun _ _ _ h => h) (Or.inl ⟨by rfl, ?_⟩) hHeld ?_
        rotate_left
        · (intro w hSw; (try dsimp only at hSw); have hT := HT1.out.keep hSw; obtain ⟨q0, q1, q2, q3, q4⟩ := hT.a1.c5; obtain ⟨p0, p1⟩ := hT.a2.c2; obtain ⟨g0, g1⟩ := hT.a8.c2; go_simp; try (with_reducible rfl))
        try simp only [Act.put, List.setIfInBounds_toArray, List.set_cons_zero, List.set_cons_succ]
        refine wpAnyH_take (i := 4) (oi := ⟨_, _, _, _, _, _⟩) (v := ?_) rfl (by kernel_rfl) (by kernel_rfl) (by kernel_rfl) (fun _ _ _ h => h) (Or.inl ⟨by rfl, ?_⟩) hHeld ?_
        rotate_left
        · (intro w hSw; (try dsimp only at hSw); go_simp; try (with_reducible rfl))
        try simp only [Act.put, List.setIfInBounds_toArray, List.set_cons_zero, List.set_cons_succ]
        refine wpAnyH_take (i := 5) (oi := ⟨_, _, _, _, _, _⟩) (v := ?_) rfl (by kernel_rfl) (by kernel_rfl) (by kernel_rfl) (fun _ _ _ h => h) (Or.inl ⟨by rfl, ?_⟩) hHeld ?_
        rotate_left
        · (intro w hSw; (try dsimp only at hSw); have hT := HT1.out.keep hSw; obtain ⟨q0, q1, q2, q3, q4⟩ := hT.a1.c5; obtain ⟨p0, p1⟩ := hT.a2.c2; obtain ⟨g0, g1⟩ := hT.a8.c2; go_simp; try (with_reducible rfl))
        try simp only [Act.put, List.setIfInBounds_toArray, List.set_cons_zero, List.set_cons_succ]
        refine wpAnyH_take (i := 6) (oi := ⟨_, _, _, _, _, _⟩) (v := ?_) rfl (by kernel_rfl) (by kernel_rfl) (by kernel_rfl) (fun _ _ _ h => h) (Or.inl ⟨by rfl, ?_⟩) hHeld ?_
        rotate_left
        · (intro w hSw; (try dsimp only at hSw); go_simp; try (with_reducible rfl))
        try simp only [Act.put, List.setIfInBounds_toArray, List.set_cons_zero, List.set_cons_succ]
        refine wpAnyH_take (i := 7) (oi := ⟨_, _, _, _, _, _⟩) (v := ?_) rfl (by kernel_rfl) (by kernel_rfl) (by kernel_rfl) (fun _ _ _ h => h) (Or.inl ⟨by rfl, ?_⟩) hHeld ?_
        rotate_left
        · (intro w hSw; (try dsimp only at hSw); go_simp; rw [max_ite]; try (with_reducible rfl))
        try simp only [Act.put, List.setIfInBounds_toArray, List.set_cons_zero, List.set_cons_succ]
        refine wpAnyH_take (i := 8) (oi := ⟨_, _, _, _, _, _⟩) (v := ?_) rfl (by kernel_rfl) (by kernel_rfl) (by kernel_rfl) (fun _ _ _ h => h) (Or.inl ⟨by rfl, ?_⟩) hHeld ?_
        rotate_left
        · (intro w hSw; (try dsimp only at hSw); go_simp; try (with_reducible rfl))
        try simp only [Act.put, List.setIfInBounds_toArray, List.set_cons_zero, List.set_cons_succ]
        refine wpAnyH_take (i := 9) (oi := ⟨_, _, _, _, _, _⟩) (v := ?_) rfl (by kernel_rfl) (by kernel_rfl) (by kernel_rfl) (fun _ _ _ h => h) (Or.inl ⟨by rfl, ?_⟩) hHeld ?_
        rotate_left
        · (intro w hSw; (try dsimp only at hSw); go_simp; try (with_reducible rfl))
        try simp only [Act.put, List.setIfInBounds_toArray, List.set_cons_zero, List.set_cons_succ]
        refine wpAnyH_take (i := 10) (oi := ⟨_, _, _, _, _, _⟩) (v := ?_) rfl (by kernel_rfl) (by kernel_rfl) (by kernel_rfl) (fun _ _ _ h => h) (Or.inl ⟨by rfl, ?_⟩) hHeld ?_
        rotate_left
        · (intro w hSw; (try dsimp only at hSw); have hT := HT1.out.keep hSw; obtain ⟨q0, q1, q2, q3, q4⟩ := hT.a1.c5; obtain ⟨p0, p1⟩ := hT.a2.c2; obtain ⟨g0, g1⟩ := hT.a8.c2; go_simp; try (with_reducible rfl))
        try simp only [Act.put, List.setIfInBounds_toArray, List.set_cons_zero, List.set_cons_succ]
        refine wpAnyH_take (i := 11) (oi := ⟨_, _, _, _, _, _⟩) (v := ?_) rfl (by kernel_rfl) (by kernel_rfl) (by kernel_rfl) (fun _ _ _ h => h) (Or.inl ⟨by rfl, ?_⟩) hHeld ?_
        rotate_left
        · (intro w hSw; (try dsimp only at hSw); go_simp; try (with_reducible rfl))
        try simp only [Act.put, List.setIfInBounds_toArray, List.set_cons_zero, List.set_cons_succ]
        refine wpAnyH_take (i := 12) (oi := ⟨_, _, _, _, _, _⟩) (v := ?_) rfl (by kernel_rfl) (by kernel_rfl) (by kernel_rfl) (fun _ _ _ h => h) (Or.inl ⟨by rfl, ?_⟩) hHeld ?_
        rotate_left
        · (intro w hSw; (try dsimp only at hSw); go_simp; try (with_reducible rfl))
        try simp only [Act.put, List.setIfInBounds_toArray, List.set_cons_zero, List.set_cons_succ]
        refine wpAnyH_take (i := 15) (oi := ⟨_, _, _, _, _, _⟩) (v := ?_) rfl (by kernel_rfl) (by kernel_rfl) (by kernel_rfl) (fun _ _ _ h => h) (Or.inl ⟨by rfl, ?_⟩) hHeld ?_
        rotate_left
        · (intro w hSw; (try dsimp only at hSw); go_simp; try (with_reducible rfl))
        try simp only [Act.put, List.setIfInBounds_toArray, List.set_cons_zero, List.set_cons_succ]
        refine wpAnyH_take (i := 16) (oi := ⟨_, _, _, _, _, _⟩) (v := ?_) rfl (by kernel_rfl) (by kernel_rfl) (by kernel_rfl) (fun _ _ _ h => h) (Or.inl ⟨by rfl, ?_⟩) hHeld ?_
        rotate_left
        · (intro w hSw; (try dsimp only at hSw); have hT := HT1.out.keep hSw; obtain ⟨q0, q1, q2, q3, q4⟩ := hT.a1.c5; obtain ⟨p0, p1⟩ := hT.a2.c2; obtain ⟨g0, g1⟩ := hT.a8.c2; go_simp; try (with_reducible rfl))
        try simp only [Act.put, List.setIfInBounds_toArray, List.set_cons_zero, List.set_cons_succ]
        refine wpAnyH_take (i := 17) (oi := ⟨_, _, _, _, _, _⟩) (v := ?_) rfl (by kernel_rfl) (by kernel_rfl) (by kernel_rfl) (fun _ _ _ h => h) (Or.inl ⟨by rfl, ?_⟩) hHeld ?_
        rotate_left
        · (intro w hSw; (try dsimp only at hSw); go_simp; try (with_reducible rfl))
        try simp only [Act.put, List.setIfInBounds_toArray, List.set_cons_zero, List.set_cons_succ]
        refine wpAnyH_take (i := 18) (oi := ⟨_, _, _, _, _, _⟩) (v := ?_) rfl (by kernel_rfl) (by kernel_rfl) (by kernel_rfl) (fun _ _ _ h => h) (Or.inl ⟨by rfl, ?_⟩) hHeld ?_
        rotate_left
        · (intro w hSw; (try dsimp only at hSw); have hT := HT1.out.keep hSw; obtain ⟨q0, q1, q2, q3, q4⟩ := hT.a1.c5; obtain ⟨p0, p1⟩ := hT.a2.c2; obtain ⟨g0, g1⟩ := hT.a8.c2; go_simp; try (with_reducible rfl))
        try simp only [Act.put, List.setIfInBounds_toArray, List.set_cons_zero, List.set_cons_succ]
        refine wpAnyH_take (i := 19) (oi := ⟨_, _, _, _, _, _⟩) (v := ?_) rfl (by kernel_rfl) (by kernel_rfl) (by kernel_rfl) (fun _ _ _ h => h) (Or.inl ⟨by rfl, ?_⟩) hHeld ?_
        rotate_left
        · (intro w hSw; (try dsimp only at hSw); go_simp; try (with_reducible rfl))
        try simp only [Act.put, List.setIfInBounds_toArray, List.set_cons_zero, List.set_cons_succ]
        refine wpAnyH_take (i := 20) (oi := ⟨_, _, _, _, _, _⟩) (v := ?_) rfl (by kernel_rfl) (by kernel_rfl) (by kernel_rfl) (fun _ _ _ h => h) (Or.inl ⟨by rfl, ?_⟩) hHeld ?_
        rotate_left
        · (intro w hSw; (try dsimp only at hSw); have hT := HT1.out.keep hSw; obtain ⟨q0, q1, q2, q3, q4⟩ := hT.a1.c5; obtain ⟨p0, p1⟩ := hT.a2.c2; obtain ⟨g0, g1⟩ := hT.a8.c2; go_simp; try (with_reducible rfl))
        try simp only [Act.put, List.setIfInBounds_toArray, List.set_cons_zero, List.set_cons_succ]
        refine wpAnyH_take (i := 21) (oi := ⟨_, _, _, _, _, _⟩) (v := ?_) rfl (by kernel_rfl) (by kernel_rfl) (by kernel_rfl) (fun _ _ _ h => h) (Or.inl ⟨by rfl, ?_⟩) hHeld ?_
        rotate_left
        · (intro w hSw; (try dsimp only at hSw); go_simp; try (with_reducible rfl))
        try simp only [Act.put, List.setIfInBounds_toArray, List.set_cons_zero, List.set_cons_succ]
        refine wpAnyH_take (i := 22) (oi := ⟨_, _, _, _, _, _⟩) (v := ?_) rfl (by kernel_rfl) (by kernel_rfl) (by kernel_rfl) (fun _ _ _ h => h) (Or.inl ⟨by rfl, ?_⟩) hHeld ?_
        rotate_left
        · (intro w hSw; (try dsimp only at hSw); go_simp; rw [max_ite]; try (with_reducible rfl))
        try simp only [Act.put, List.setIfInBounds_toArray, List.set_cons_zero, List.set_cons_succ]
        refine wpAnyH_take (i := 23) (oi := ⟨_, _, _, _, _, _⟩) (v := ?_) rfl (by kernel_rfl) (by kernel_rfl) (by kernel_rfl) (fun _ _ _ h => h) (Or.inl ⟨by rfl, ?_⟩) hHeld ?_
        rotate_left
        · (intro w hSw; (try dsimp only at hSw); go_simp; try (with_reducible rfl))
        try simp only [Act.put, List.setIfInBounds_toArray, List.set_cons_zero, List.set_cons_succ]
        refine wpAnyH_take (i := 24) (oi := ⟨_, _, _, _, _, _⟩) (v := ?_) rfl (by kernel_rfl) (by kernel_rfl) (by kernel_rfl) (fun _ _ _ h => h) (Or.inl ⟨by rfl, ?_⟩) hHeld ?_
        rotate_left
        · (intro w hSw; (try dsimp only at hSw); go_simp; try (with_reducible rfl))
        try simp only [Act.put, List.setIfInBounds_toArray, List.set_cons_zero, List.set_cons_succ]
        refine wpAnyH_take (i := 25) (oi := ⟨_, _, _, _, _, _⟩) (v := ?_) rfl (by kernel_rfl) (by kernel_rfl) (by kernel_rfl) (fun _ _ _ h => h) (Or.inl ⟨by rfl, ?_⟩) hHeld ?_
        rotate_left
        · (intro w hSw; (try dsimp only at hSw); have hT := HT1.out.keep hSw; obtain ⟨q0, q1, q2, q3, q4⟩ := hT.a1.c5; obtain ⟨p0, p1⟩ := hT.a2.c2; obtain ⟨g0, g1⟩ := hT.a8.c2; go_simp; try (with_reducible rfl))
        try simp only [Act.put, List.setIfInBounds_toArray, List.set_cons_zero, List.set_cons_succ]
        refine wpAnyH_take (i := 26) (oi := ⟨_, _, _, _, _, _⟩) (v := ?_) rfl (by kernel_rfl) (by kernel_rfl) (by kernel_rfl) (fun _ _ _ h => h) (Or.inl ⟨by rfl, ?_⟩) hHeld ?_
        rotate_left
        · (intro w hSw; (try dsimp only at hSw); go_simp; try (with_reducible rfl))
        try simp only [Act.put, List.setIfInBounds_toArray, List.set_cons_zero, List.set_cons_succ]
        refine wpAnyH_take (i := 27) (oi := ⟨_, _, _, _, _, _⟩) (v := ?_) rfl (by kernel_rfl) (by kernel_rfl) (by kernel_rfl) (fun _ _ _ h => h) (Or.inl ⟨by rfl, ?_⟩) hHeld ?_
        rotate_left
        · (intro w hSw; (try dsimp only at hSw); go_simp; try (with_reducible rfl))
        try simp only [Act.put, List.setIfInBounds_toArray, List.set_cons_zero, List.set_cons_succ]
        refine wpAnyH_take (i := 28) (oi := ⟨_, _, _, _, _, _⟩) (v := ?_) rfl (by kernel_rfl) (by kernel_rfl) (by kernel_rfl) (fun _ _ _ h => h) (Or.inl ⟨by rfl, ?_⟩) hHeld ?_
        rotate_left
        · (intro w hSw; (try dsimp only at hSw); go_simp; try (with_reducible rfl))
        try simp only [Act.put, List.setIfInBounds_toArray, List.set_cons_zero, List.set_cons_succ]
        refine wpAnyH_take (i := 29) (oi := ⟨_, _, _, _, _, _⟩) (v := ?_) rfl (by kernel_rfl) (by kernel_rfl) (by kernel_rfl) (fun _ _ _ h => h) (Or.inl ⟨by rfl, ?_⟩) hHeld ?_
        rotate_left
        · (intro w hSw; (try dsimp only at hSw); go_simp; try (with_reducible rfl))
        try simp only [Act.put, List.setIfInBounds_toArray, List.set_cons_zero, List.set_cons_succ]
        refine wpAnyH_ready (rs := [13, 31]) (by kernel_rfl) (by simp) ?_
        refine AllReadyH.cons (o := ⟨_, _, _, _, _, _⟩) rfl (fun K hK => ?_) ?_
        ·
          go_simp
          refine (rUp_fn _ _ (by rw [U2.out.1]; exact U2.out.2.1) (by rw [U2.out.1]; exact U2.out.2.2)).mono ?_
          rintro e w' ⟨rfl, hw⟩
          have hb := below_of_eq hw
          clear hw
          try (have h9 := h9.below hb)
          try (have g9 := frz_below g9 h9b hb)
          try (have h9b := Nat.lt_of_lt_of_le h9b hb.size)
          go_wp2_with fail
          refine hK.out _ _ ?_ (fun hHeld2 => ?_)
          · (try dsimp only)
            (first | exact hHeld | exact hHeld.trans (hb.mono hHeld.size) | exact hHeld.trans ((below_new _ _).mono hHeld.size) | exact hHeld.drew | exact (hHeld.setCell hge _).setCell hge _)
          clear hK K hHeld; have hHeld := hHeld2; clear hHeld2
          try simp only [Act.put, List.setIfInBounds_toArray, List.set_cons_zero, List.set_cons_succ]
          refine wpAnyH_take (i := 14) (oi := ⟨_, _, _, _, _, _⟩) (v := ?_) rfl (by kernel_rfl) (by kernel_rfl) (by kernel_rfl) (fun _ _ _ h => h) (Or.inl ⟨by rfl, ?_⟩) hHeld ?_
          rotate_left
          · (intro w hSw; (try dsimp only at hSw); go_simp; try (with_reducible rfl))
          try simp only [Act.put, List.setIfInBounds_toArray, List.set_cons_zero, List.set_cons_succ]
          refine wpAnyH_take (i := 30) (oi := ⟨_, _, _, _, _, _⟩) (v := ?_) rfl (by kernel_rfl) (by kernel_rfl) (by kernel_rfl) (fun _ _ _ h => h) (Or.inl ⟨by rfl, ?_⟩) hHeld ?_
          rotate_left
          · (intro w hSw; (try dsimp only at hSw); go_simp; try (with_reducible rfl))
          try simp only [Act.put, List.setIfInBounds_toArray, List.set_cons_zero, List.set_cons_succ]
          refine wpAnyH_ready (rs := [31]) (by kernel_rfl) (by simp) ?_
          refine AllReadyH.cons (o := ⟨_, _, _, _, _, _⟩) rfl (fun K hK => ?_) AllReadyH.nil
          go_simp
          first | refine gen_new ?_ | refine gen_newD ?_
          intro wA h9 g9 hb h9b
          have hge := hHeld.size
          refine hK.out _ _ ?_ (fun hHeld2 => ?_)
          · (try dsimp only)
            (first | exact hHeld | exact hHeld.trans (hb.mono hHeld.size) | exact hHeld.trans ((below_new _ _).mono hHeld.size) | exact hHeld.drew | exact (hHeld.setCell hge _).setCell hge _)
          clear hK K hHeld; have hHeld := hHeld2; clear hHeld2
          try simp only [Act.put, List.setIfInBounds_toArray, List.set_cons_zero, List.set_cons_succ]
          refine wpAnyH_ready (rs := [32]) (by kernel_rfl) (by simp) ?_
          refine AllReadyH.cons (o := ⟨_, _, _, _, _, _⟩) rfl (fun K hK => ?_) AllReadyH.nil
          obtain ⟨z0, z1⟩ := h9.c2
          have y0 := g9 0
          have y1 := g9 1
          have hH := hHeld
          go_simp
          refine hK.out _ _ ?_ (fun hHeld2 => ?_)
          · (try dsimp only)
            (first | exact hHeld | exact hHeld.trans (hb.mono hHeld.size) | exact hHeld.trans ((below_new _ _).mono hHeld.size) | exact hHeld.drew | exact (hHeld.setCell hge _).setCell hge _)
          clear hK K hHeld; have hHeld := hHeld2; clear hHeld2
          try simp only [Act.put, List.setIfInBounds_toArray, List.set_cons_zero, List.set_cons_succ]
          refine wpAnyH_done (by kernel_rfl) ?_ _
          rw [D2.out, U2.out.1, S1.out, S2.out]
          refine ⟨_, by first | rfl | trivial, by first | rfl | trivial, by first | rfl | trivial, by first | rfl | trivial, by first | rfl | trivial, by first | rfl | trivial, by first | rfl | trivial, by first | rfl | trivial, by first | rfl | trivial, ?_, hge, (hH.setCell hge _).setCell hge _⟩
          simpa using (h9.set (j := 0) (.int .i64 (seF X ⟨v0, v1⟩).lo) (by simp)).set (j := 1) (.int .i64 (seF X ⟨v0, v1⟩).hi) (by simp)
        refine AllReadyH.cons (o := ⟨_, _, _, _, _, _⟩) rfl (fun K hK => ?_) AllReadyH.nil
        go_simp
        first | refine gen_new ?_ | refine gen_newD ?_
        intro wA h9 g9 hb h9b
        have hge := hHeld.size
        refine hK.out _ _ ?_ (fun hHeld2 => ?_)
        · (try dsimp only)
          (first | exact hHeld | exact hHeld.trans (hb.mono hHeld.size) | exact hHeld.trans ((below_new _ _).mono hHeld.size) | exact hHeld.drew | exact (hHeld.setCell hge _).setCell hge _)
        clear hK K hHeld; have hHeld := hHeld2; clear hHeld2
        try simp only [Act.put, List.setIfInBounds_toArray, List.set_cons_zero, List.set_cons_succ]
        refine wpAnyH_ready (rs := [13]) (by kernel_rfl) (by simp) ?_
        refine AllReadyH.cons (o := ⟨_, _, _, _, _, _⟩) rfl (fun K hK => ?_) AllReadyH.nil
        go_simp
        refine (rUp_fn _ _ (by rw [U2.out.1]; exact U2.out.2.1) (by rw [U2.out.1]; exact U2.out.2.2)).mono ?_
        rintro e w' ⟨rfl, hw⟩
        have hb := below_of_eq hw
        clear hw
        try (have h9 := h9.below hb)
        try (have g9 := frz_below g9 h9b hb)
        try (have h9b := Nat.lt_of_lt_of_le h9b hb.size)
        go_wp2_with fail
        refine hK.out _ _ ?_ (fun hHeld2 => ?_)
        · (try dsimp only)
          (first | exact hHeld | exact hHeld.trans (hb.mono hHeld.size) | exact hHeld.trans ((below_new _ _).mono hHeld.size) | exact hHeld.drew | exact (hHeld.setCell hge _).setCell hge _)
        clear hK K hHeld; have hHeld := hHeld2; clear hHeld2
        try simp only [Act.put, List.setIfInBounds_toArray, List.set_cons_zero, List.set_cons_succ]
        refine wpAnyH_take (i := 14) (oi := ⟨_, _, _, _, _, _⟩) (v := ?_) rfl (by kernel_rfl) (by kernel_rfl) (by kernel_rfl) (fun _ _ _ h => h) (Or.inl ⟨by rfl, ?_⟩) hHeld ?_
        rotate_left
        · (intro w hSw; (try dsimp only at hSw); go_simp; try (with_reducible rfl))
        try simp only [Act.put, List.setIfInBounds_toArray, List.set_cons_zero, List.set_cons_succ]
        refine wpAnyH_take (i := 30) (oi := ⟨_, _, _, _, _, _⟩) (v := ?_) rfl (by kernel_rfl) (by kernel_rfl) (by kernel_rfl) (fun _ _ _ h => h) (Or.inl ⟨by rfl, ?_⟩) hHeld ?_
        rotate_left
        · (intro w hSw; (try dsimp only at hSw); go_simp; try (with_reducible rfl))
        try simp only [Act.put, List.setIfInBounds_toArray, List.set_cons_zero, List.set_cons_succ]
        refine wpAnyH_ready (rs := [32]) (by kernel_rfl) (by simp) ?_
        refine AllReadyH.cons (o := ⟨_, _, _, _, _, _⟩) rfl (fun K hK => ?_) AllReadyH.nil
        obtain ⟨z0, z1⟩ := h9.c2
        have y0 := g9 0
        have y1 := g9 1
        have hH := hHeld
        go_simp
        refine hK.out _ _ ?_ (fun hHeld2 => ?_)
        · (try dsimp only)
          (first | exact hHeld | exact hHeld.trans (hb.mono hHeld.size) | exact hHeld.trans ((below_new _ _).mono hHeld.size) | exact hHeld.drew | exact (hHeld.setCell hge _).setCell hge _)
        clear hK K hHeld; have hHeld := hHeld2; clear hHeld2
        try simp only [Act.put, List.setIfInBounds_toArray, List.set_cons_zero, List.set_cons_succ]
        refine wpAnyH_done (by kernel_rfl) ?_ _
        rw [D2.out, U2.out.1, S1.out, S2.out]
        refine ⟨_, by first | rfl | trivial, by first | rfl | trivial, by first | rfl | trivial, by first | rfl | trivial, by first | rfl | trivial, by first | rfl | trivial, by first | rfl | trivial, by first | rfl | trivial, by first | rfl | trivial, ?_, hge, (hH.setCell hge _).setCell hge _⟩
        simpa using (h9.set (j := 0) (.int .i64 (seF X ⟨v0, v1⟩).lo) (by simp)).set (j := 1) (.int .i64 (seF X ⟨v0, v1⟩).hi) (by simp)
      rintro e a2 W2 hq
      cases e with
      | normal =>
        obtain ⟨b10, hs, hd, s3, s4, s6, s7, s8, s9, s10, h10, hge10, hB2⟩ := hq
        rw [act_eq hs hd]
        obtain ⟨u, hu⟩ : ∃ u, u = slot a2 := ⟨_, rfl⟩
        rw [← hu] at s3 s4 s6 s7 s8 s9 s10 ⊢
        have he : ({ tmps := ((List.range 73).map u).toArray, defers := [] } : Act) = { tmps := #[(u 0), (u 1), (u 2), (u 3), (u 4), (u 5), (u 6), (u 7), (u 8), (u 9), (u 10), (u 11), (u 12), (u 13), (u 14), (u 15), (u 16), (u 17), (u 18), (u 19), (u 20), (u 21), (u 22), (u 23), (u 24), (u 25), (u 26), (u 27), (u 28), (u 29), (u 30), (u 31), (u 32), (u 33), (u 34), (u 35), (u 36), (u 37), (u 38), (u 39), (u 40), (u 41), (u 42), (u 43), (u 44), (u 45), (u 46), (u 47), (u 48), (u 49), (u 50), (u 51), (u 52), (u 53), (u 54), (u 55), (u 56), (u 57), (u 58), (u 59), (u 60), (u 61), (u 62), (u 63), (u 64), (u 65), (u 66), (u 67), (u 68), (u 69), (u 70), (u 71), (u 72)], defers := [] } := rfl
        rw [he, s3, s4, s6, s7, s8, s9, s10]
        clear he hs hd hu s3 s4 s6 s7 s8 s9 s10
        have HT2 := hide (HT1.out.keep hB2)
        have h92 := h9.below hB2
        have hw9 : w.heap.size + 5 ≤ b9 := Nat.le_trans HS.out.hs hge9
        have hw10 : w.heap.size + 5 ≤ b10 := Nat.le_trans HT1.out.hs hge10
        go_wp2_with fail
        refine wp_region_held_drew (S := (fun W => TS w [.int .i64 f, .int .i64 s0, .int .i64 s1, .int .i64 l0, .int .i64 l1] [.int .i64 v0, .int .i64 v1] [.int .i64 X.fill.lo, .int .i64 X.fill.hi] W ∧ At W b9 [.int .i64 (goF X ⟨v0, v1⟩).lo, .int .i64 (goF X ⟨v0, v1⟩).hi] ∧ At W b10 [.int .i64 (seF X ⟨v0, v1⟩).lo, .int .i64 (seF X ⟨v0, v1⟩).hi])) (by kernel_rfl) (by (try dsimp only); exact ⟨HT2.out.drew, h92, h10⟩) (fun hHeld => ?_)
        generalize World.drew W2 = Wd at hHeld ⊢
        refine wpAnyH_take (i := 0) (oi := ⟨_, _, _, _, _, _⟩) (v := ?_) rfl (by kernel_rfl) (by kernel_rfl) (by kernel_rfl) (fun _ _ _ h => h) (Or.inl ⟨by rfl, ?_⟩) hHeld ?_
        rotate_left
        · (intro w hSw; (try dsimp only at hSw); obtain ⟨z0, z1⟩ := hSw.2.1.c2; go_simp; try (with_reducible rfl))
        try simp only [Act.put, List.setIfInBounds_toArray, List.set_cons_zero, List.set_cons_succ]
        refine wpAnyH_take (i := 1) (oi := ⟨_, _, _, _, _, _⟩) (v := ?_) rfl (by kernel_rfl) (by kernel_rfl) (by kernel_rfl) (fun _ _ _ h => h) (Or.inl ⟨by rfl, ?_⟩) hHeld ?_
        rotate_left
        · (intro w hSw; (try dsimp only at hSw); obtain ⟨z0, z1⟩ := hSw.2.2.c2; go_simp; try (with_reducible rfl))
        try simp only [Act.put, List.setIfInBounds_toArray, List.set_cons_zero, List.set_cons_succ]
        refine wpAnyH_ready (rs := [2]) (by kernel_rfl) (by simp) ?_
        refine AllReadyH.cons (o := ⟨_, _, _, _, _, _⟩) rfl (fun K hK => ?_) AllReadyH.nil
        obtain ⟨x6, y6, h6⟩ := hHeld.1.r6
        obtain ⟨z0, z1⟩ := h6.c2
        have y0 := hHeld.1.f6 0
        have y1 := hHeld.1.f6 1
        have Z6 := hide (And.intro z0 z1)
        go_simp
        refine hK.out _ _ ?_ (fun hHeld2 => ?_)
        · (try dsimp only)
          (first | exact ⟨HT2.out.drew, h92, h10⟩ | exact ⟨(hHeld.1.set6 _ 0).set6 _ 1, (hHeld.2.1.other _ _ (by omega)).other _ _ (by omega), (hHeld.2.2.other _ _ (by omega)).other _ _ (by omega)⟩ | exact ⟨(hHeld.1.set7 _ 0).set7 _ 1, (hHeld.2.1.other _ _ (by omega)).other _ _ (by omega), (hHeld.2.2.other _ _ (by omega)).other _ _ (by omega)⟩)
        clear hK K hHeld; have hHeld := hHeld2; clear hHeld2
        try simp only [Act.put, List.setIfInBounds_toArray, List.set_cons_zero, List.set_cons_succ]
        refine wpAnyH_ready (rs := [3]) (by kernel_rfl) (by simp) ?_
        refine AllReadyH.cons (o := ⟨_, _, _, _, _, _⟩) rfl (fun K hK => ?_) AllReadyH.nil
        obtain ⟨x7, y7, h7⟩ := hHeld.1.r7
        obtain ⟨z2, z3⟩ := h7.c2
        have y2 := hHeld.1.f7 0
        have y3 := hHeld.1.f7 1
        have Z7 := hide (And.intro z2 z3)
        go_simp
        refine hK.out _ _ ?_ (fun hHeld2 => ?_)
        · (try dsimp only)
          (first | exact ⟨HT2.out.drew, h92, h10⟩ | exact ⟨(hHeld.1.set6 _ 0).set6 _ 1, (hHeld.2.1.other _ _ (by omega)).other _ _ (by omega), (hHeld.2.2.other _ _ (by omega)).other _ _ (by omega)⟩ | exact ⟨(hHeld.1.set7 _ 0).set7 _ 1, (hHeld.2.1.other _ _ (by omega)).other _ _ (by omega), (hHeld.2.2.other _ _ (by omega)).other _ _ (by omega)⟩)
        clear hK K hHeld; have hHeld := hHeld2; clear hHeld2
        try simp only [Act.put, List.setIfInBounds_toArray, List.set_cons_zero, List.set_cons_succ]
        refine wpAnyH_done (by kernel_rfl) ?_ _
        first
          | (have Fa : At ((((Wd.setCell ⟨w.heap.size + 1 + 1, 0, none⟩ (.int .i64 (goF X ⟨v0, v1⟩).lo)).setCell ⟨w.heap.size + 1 + 1, 1, none⟩ (.int .i64 (goF X ⟨v0, v1⟩).hi)).setCell ⟨w.heap.size + 1 + 1 + 1, 0, none⟩ (.int .i64 (seF X ⟨v0, v1⟩).lo)).setCell ⟨w.heap.size + 1 + 1 + 1, 1, none⟩ (.int .i64 (seF X ⟨v0, v1⟩).hi)) (w.heap.size + 1 + 1) [.int .i64 (goF X ⟨v0, v1⟩).lo, .int .i64 (goF X ⟨v0, v1⟩).hi] := by simpa using (((h6.set (j := 0) (.int .i64 (goF X ⟨v0, v1⟩).lo) (by simp)).set (j := 1) (.int .i64 (goF X ⟨v0, v1⟩).hi) (by simp)).other (r := w.heap.size + 1 + 1 + 1) 0 (.int .i64 (seF X ⟨v0, v1⟩).lo) (by omega)).other (r := w.heap.size + 1 + 1 + 1) 1 (.int .i64 (seF X ⟨v0, v1⟩).hi) (by omega)
             have Fb : At ((((Wd.setCell ⟨w.heap.size + 1 + 1, 0, none⟩ (.int .i64 (goF X ⟨v0, v1⟩).lo)).setCell ⟨w.heap.size + 1 + 1, 1, none⟩ (.int .i64 (goF X ⟨v0, v1⟩).hi)).setCell ⟨w.heap.size + 1 + 1 + 1, 0, none⟩ (.int .i64 (seF X ⟨v0, v1⟩).lo)).setCell ⟨w.heap.size + 1 + 1 + 1, 1, none⟩ (.int .i64 (seF X ⟨v0, v1⟩).hi)) (w.heap.size + 1 + 1 + 1) [.int .i64 (seF X ⟨v0, v1⟩).lo, .int .i64 (seF X ⟨v0, v1⟩).hi] := by simpa using ((h7.set (j := 0) (.int .i64 (seF X ⟨v0, v1⟩).lo) (by simp)).set (j := 1) (.int .i64 (seF X ⟨v0, v1⟩).hi) (by simp))
             obtain ⟨k0, k1⟩ := Fa.c2
             obtain ⟨k2, k3⟩ := Fb.c2
             go_wp2
             exact bodyPost_ret (by simp [results, Try.results135, go_sem, k0, k1, k2, k3]; try rfl) rfl ⟨rfl, hHeld.1.bl⟩)
          | (have Fa : At ((((Wd.setCell ⟨w.heap.size + 1 + 1 + 1, 0, none⟩ (.int .i64 (seF X ⟨v0, v1⟩).lo)).setCell ⟨w.heap.size + 1 + 1 + 1, 1, none⟩ (.int .i64 (seF X ⟨v0, v1⟩).hi)).setCell ⟨w.heap.size + 1 + 1, 0, none⟩ (.int .i64 (goF X ⟨v0, v1⟩).lo)).setCell ⟨w.heap.size + 1 + 1, 1, none⟩ (.int .i64 (goF X ⟨v0, v1⟩).hi)) (w.heap.size + 1 + 1 + 1) [.int .i64 (seF X ⟨v0, v1⟩).lo, .int .i64 (seF X ⟨v0, v1⟩).hi] := by simpa using (((h7.set (j := 0) (.int .i64 (seF X ⟨v0, v1⟩).lo) (by simp)).set (j := 1) (.int .i64 (seF X ⟨v0, v1⟩).hi) (by simp)).other (r := w.heap.size + 1 + 1) 0 (.int .i64 (goF X ⟨v0, v1⟩).lo) (by omega)).other (r := w.heap.size + 1 + 1) 1 (.int .i64 (goF X ⟨v0, v1⟩).hi) (by omega)
             have Fb : At ((((Wd.setCell ⟨w.heap.size + 1 + 1 + 1, 0, none⟩ (.int .i64 (seF X ⟨v0, v1⟩).lo)).setCell ⟨w.heap.size + 1 + 1 + 1, 1, none⟩ (.int .i64 (seF X ⟨v0, v1⟩).hi)).setCell ⟨w.heap.size + 1 + 1, 0, none⟩ (.int .i64 (goF X ⟨v0, v1⟩).lo)).setCell ⟨w.heap.size + 1 + 1, 1, none⟩ (.int .i64 (goF X ⟨v0, v1⟩).hi)) (w.heap.size + 1 + 1) [.int .i64 (goF X ⟨v0, v1⟩).lo, .int .i64 (goF X ⟨v0, v1⟩).hi] := by simpa using ((h6.set (j := 0) (.int .i64 (goF X ⟨v0, v1⟩).lo) (by simp)).set (j := 1) (.int .i64 (goF X ⟨v0, v1⟩).hi) (by simp))
             obtain ⟨k0, k1⟩ := Fa.c2
             obtain ⟨k2, k3⟩ := Fb.c2
             go_wp2
             exact bodyPost_ret (by simp [results, Try.results135, go_sem, k0, k1, k2, k3]; try rfl) rfl ⟨rfl, hHeld.1.bl⟩)
      | ret => exact hq.elim
      | exit id => exact hq.elim
      | goto t => exact hq.elim
      | panic ch => exact hq.elim
      | outgrown => exact hq.elim
    | ret => exact hq.elim
    | exit id => exact hq.elim
    | goto t => exact hq.elim
    | panic ch => exact hq.elim
    | outgrown => exact hq.elim
end Go.Proofs.Ytmbhnjpaieimbaa
