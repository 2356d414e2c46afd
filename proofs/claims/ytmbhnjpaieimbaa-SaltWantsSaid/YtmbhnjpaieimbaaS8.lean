/- The reference of salt: a cycle, by contracts. -/
import Derived.Test.YtmbhnjpaieimbaaS7
import Derived.Deep.RegionHeld3
set_option linter.unusedVariables false
set_option linter.unusedSimpArgs false
namespace Go.Proofs.Ytmbhnjpaieimbaa
open Go.RowKit Go.Shelf
attribute [local go_sem] ite_min ite_max
theorem then_wrap {a r v m cr w : Int} (ha : 0 ≤ a ∧ a ≤ 100000000000000) (hr : 0 ≤ r ∧ r ≤ 100000000) (hv : 0 ≤ v ∧ v ≤ 1000000000) (hm : 0 ≤ m ∧ m ≤ 100000) (hcr : 0 ≤ cr ∧ cr ≤ 1000000000) (hw : 0 ≤ w ∧ w ≤ 100000) :
    wrap64 (wrap64 (wrap64 (1000 * wrap64 (a + r)) + wrap64 (v * m)) - wrap64 (w * max 0 (wrap64 (v - cr)))) = 1000 * (a + r) + v * m - max 0 (v - cr) * w := by
  have p1 := prod_le hv.1 hm.1 hv.2 hm.2
  have hx : 0 ≤ max 0 (v - cr) ∧ max 0 (v - cr) ≤ 1000000000 := by omega
  have p2 := prod_le hx.1 hw.1 hx.2 hw.2
  rw [show wrap64 (v - cr) = v - cr by unfold wrap64; omega, Int.mul_comm w]
  generalize v * m = x at *
  generalize max 0 (v - cr) * w = y at *
  simp only [wrap64]
  omega
set_option maxHeartbeats 1000000 in
theorem then_any (a m wa r cr v : Int) (w : World) (ha : 0 ≤ a ∧ a ≤ 100000000000000) (hr : 0 ≤ r ∧ r ≤ 100000000) (hv : 0 ≤ v ∧ v ≤ 1000000000) (hm : 0 ≤ m ∧ m ≤ 100000) (hcr : 0 ≤ cr ∧ cr ≤ 1000000000) (hw : 0 ≤ wa ∧ wa ≤ 100000) :
    Calls Try.prog 127 #[.int .i64 a, .int .i64 m, .int .i64 wa, .int .i64 r, .int .i64 cr, .int .i64 v] w fun e w' => e = .returned (.int .i64 (1000 * (a + r) + v * m - max 0 (v - cr) * wa)) ∧ w = w' := by
  have ha' := hide ha; have hr' := hide hr; have hv' := hide hv; have hm' := hide hm; have hcr' := hide hcr; have hw' := hide hw
  clear ha hr hv hm hcr hw
  go_enter Try.func127, Try.ntmps127
  go_wp2
  go_ret
  exact ⟨ret_int (then_wrap ha'.out hr'.out hv'.out hm'.out hcr'.out hw'.out), rfl⟩

set_option maxHeartbeats 1000000 in
theorem least_any (a0 a1 li cr m0 m1 w0 w1 r0 r1 v : Int) (w : World) (hf : So.fit 100000000000000 ⟨⟨a0, a1⟩, li, cr, ⟨m0, m1⟩, ⟨w0, w1⟩, ⟨r0, r1⟩⟩) (h0 : 0 ≤ v) (h1 : v ≤ 1000000000) :
    Calls Try.prog 91 #[.agg #[.int .i64 a0, .int .i64 a1, .int .i64 li, .int .i64 cr, .int .i64 m0, .int .i64 m1, .int .i64 w0, .int .i64 w1, .int .i64 r0, .int .i64 r1], .int .i64 v] w fun e w' => e = .returned (.int .i64 (saltedF false ⟨⟨a0, a1⟩, li, cr, ⟨m0, m1⟩, ⟨w0, w1⟩, ⟨r0, r1⟩⟩ v)) ∧ Below w.heap.size w w' := by
  have Hf := hide hf; clear hf
  go_enter Try.func91, Try.ntmps91
  go_wp2_with (go_at_call 127; refine (then_any _ _ _ _ _ _ _ Hf.out.a0 Hf.out.r0 ⟨h0, h1⟩ Hf.out.m0 Hf.out.cr Hf.out.w1).mono ?_; rintro e w' ⟨rfl, rfl⟩)
  go_ret
  exact ⟨rfl, below_new _ _⟩

set_option maxHeartbeats 1000000 in
theorem most_any (a0 a1 li cr m0 m1 w0 w1 r0 r1 v : Int) (w : World) (hf : So.fit 100000000000000 ⟨⟨a0, a1⟩, li, cr, ⟨m0, m1⟩, ⟨w0, w1⟩, ⟨r0, r1⟩⟩) (h0 : 0 ≤ v) (h1 : v ≤ 1000000000) :
    Calls Try.prog 92 #[.agg #[.int .i64 a0, .int .i64 a1, .int .i64 li, .int .i64 cr, .int .i64 m0, .int .i64 m1, .int .i64 w0, .int .i64 w1, .int .i64 r0, .int .i64 r1], .int .i64 v] w fun e w' => e = .returned (.int .i64 (saltedF true ⟨⟨a0, a1⟩, li, cr, ⟨m0, m1⟩, ⟨w0, w1⟩, ⟨r0, r1⟩⟩ v)) ∧ Below w.heap.size w w' := by
  have Hf := hide hf; clear hf
  go_enter Try.func92, Try.ntmps92
  go_wp2_with (go_at_call 127; refine (then_any _ _ _ _ _ _ _ Hf.out.a1 Hf.out.r1 ⟨h0, h1⟩ Hf.out.m1 Hf.out.cr Hf.out.w0).mono ?_; rintro e w' ⟨rfl, rfl⟩)
  go_ret
  exact ⟨rfl, below_new _ _⟩

theorem keepC {w W W' : World} {a0 a1 li cr m0 m1 w0 w1 r0 r1 lo hi : Int} (hb : Below W.heap.size W W') (h : W.cell? ⟨w.heap.size, 0, none⟩ = some (.int .i64 a0) ∧ W.cell? ⟨w.heap.size, 1, none⟩ = some (.int .i64 a1) ∧ W.cell? ⟨w.heap.size, 2, none⟩ = some (.int .i64 li) ∧ W.cell? ⟨w.heap.size, 3, none⟩ = some (.int .i64 cr) ∧ W.cell? ⟨w.heap.size, 4, none⟩ = some (.int .i64 m0) ∧ W.cell? ⟨w.heap.size, 5, none⟩ = some (.int .i64 m1) ∧ W.cell? ⟨w.heap.size, 6, none⟩ = some (.int .i64 w0) ∧ W.cell? ⟨w.heap.size, 7, none⟩ = some (.int .i64 w1) ∧ W.cell? ⟨w.heap.size, 8, none⟩ = some (.int .i64 r0) ∧ W.cell? ⟨w.heap.size, 9, none⟩ = some (.int .i64 r1) ∧ W.cell? ⟨w.heap.size + 1, 0, none⟩ = some (.int .i64 lo) ∧ W.cell? ⟨w.heap.size + 1, 1, none⟩ = some (.int .i64 hi) ∧ w.heap.size + 2 < W.heap.size ∧ (∀ j : Nat, W.frozen? ⟨w.heap.size + 2, j, none⟩ = false) ∧ At W (w.heap.size + 2) [.int .i64 0, .int .i64 0] ∧ Below w.heap.size w W) : W'.cell? ⟨w.heap.size, 0, none⟩ = some (.int .i64 a0) ∧ W'.cell? ⟨w.heap.size, 1, none⟩ = some (.int .i64 a1) ∧ W'.cell? ⟨w.heap.size, 2, none⟩ = some (.int .i64 li) ∧ W'.cell? ⟨w.heap.size, 3, none⟩ = some (.int .i64 cr) ∧ W'.cell? ⟨w.heap.size, 4, none⟩ = some (.int .i64 m0) ∧ W'.cell? ⟨w.heap.size, 5, none⟩ = some (.int .i64 m1) ∧ W'.cell? ⟨w.heap.size, 6, none⟩ = some (.int .i64 w0) ∧ W'.cell? ⟨w.heap.size, 7, none⟩ = some (.int .i64 w1) ∧ W'.cell? ⟨w.heap.size, 8, none⟩ = some (.int .i64 r0) ∧ W'.cell? ⟨w.heap.size, 9, none⟩ = some (.int .i64 r1) ∧ W'.cell? ⟨w.heap.size + 1, 0, none⟩ = some (.int .i64 lo) ∧ W'.cell? ⟨w.heap.size + 1, 1, none⟩ = some (.int .i64 hi) ∧ w.heap.size + 2 < W'.heap.size ∧ (∀ j : Nat, W'.frozen? ⟨w.heap.size + 2, j, none⟩ = false) ∧ At W' (w.heap.size + 2) [.int .i64 0, .int .i64 0] ∧ Below w.heap.size w W' := by
  obtain ⟨h0, h1, h2, h3, h4, h5, h6, h7, h8, h9, h10, h11, hl, hf, ha, hB⟩ := h
  exact ⟨(hb.cell (by simp only []; omega)).trans h0, (hb.cell (by simp only []; omega)).trans h1, (hb.cell (by simp only []; omega)).trans h2, (hb.cell (by simp only []; omega)).trans h3, (hb.cell (by simp only []; omega)).trans h4, (hb.cell (by simp only []; omega)).trans h5, (hb.cell (by simp only []; omega)).trans h6, (hb.cell (by simp only []; omega)).trans h7, (hb.cell (by simp only []; omega)).trans h8, (hb.cell (by simp only []; omega)).trans h9, (hb.cell (by simp only []; omega)).trans h10, (hb.cell (by simp only []; omega)).trans h11, Nat.lt_of_lt_of_le hl hb.size, fun j => (hb.frozen (p := ⟨w.heap.size + 2, j, none⟩) hl).trans (hf j), ha.below hb, hB.trans (hb.mono hB.size)⟩
theorem keepC_drew {w W : World} {a0 a1 li cr m0 m1 w0 w1 r0 r1 lo hi : Int} (h : W.cell? ⟨w.heap.size, 0, none⟩ = some (.int .i64 a0) ∧ W.cell? ⟨w.heap.size, 1, none⟩ = some (.int .i64 a1) ∧ W.cell? ⟨w.heap.size, 2, none⟩ = some (.int .i64 li) ∧ W.cell? ⟨w.heap.size, 3, none⟩ = some (.int .i64 cr) ∧ W.cell? ⟨w.heap.size, 4, none⟩ = some (.int .i64 m0) ∧ W.cell? ⟨w.heap.size, 5, none⟩ = some (.int .i64 m1) ∧ W.cell? ⟨w.heap.size, 6, none⟩ = some (.int .i64 w0) ∧ W.cell? ⟨w.heap.size, 7, none⟩ = some (.int .i64 w1) ∧ W.cell? ⟨w.heap.size, 8, none⟩ = some (.int .i64 r0) ∧ W.cell? ⟨w.heap.size, 9, none⟩ = some (.int .i64 r1) ∧ W.cell? ⟨w.heap.size + 1, 0, none⟩ = some (.int .i64 lo) ∧ W.cell? ⟨w.heap.size + 1, 1, none⟩ = some (.int .i64 hi) ∧ w.heap.size + 2 < W.heap.size ∧ (∀ j : Nat, W.frozen? ⟨w.heap.size + 2, j, none⟩ = false) ∧ At W (w.heap.size + 2) [.int .i64 0, .int .i64 0] ∧ Below w.heap.size w W) (n : Nat) : (W.drewN n).cell? ⟨w.heap.size, 0, none⟩ = some (.int .i64 a0) ∧ (W.drewN n).cell? ⟨w.heap.size, 1, none⟩ = some (.int .i64 a1) ∧ (W.drewN n).cell? ⟨w.heap.size, 2, none⟩ = some (.int .i64 li) ∧ (W.drewN n).cell? ⟨w.heap.size, 3, none⟩ = some (.int .i64 cr) ∧ (W.drewN n).cell? ⟨w.heap.size, 4, none⟩ = some (.int .i64 m0) ∧ (W.drewN n).cell? ⟨w.heap.size, 5, none⟩ = some (.int .i64 m1) ∧ (W.drewN n).cell? ⟨w.heap.size, 6, none⟩ = some (.int .i64 w0) ∧ (W.drewN n).cell? ⟨w.heap.size, 7, none⟩ = some (.int .i64 w1) ∧ (W.drewN n).cell? ⟨w.heap.size, 8, none⟩ = some (.int .i64 r0) ∧ (W.drewN n).cell? ⟨w.heap.size, 9, none⟩ = some (.int .i64 r1) ∧ (W.drewN n).cell? ⟨w.heap.size + 1, 0, none⟩ = some (.int .i64 lo) ∧ (W.drewN n).cell? ⟨w.heap.size + 1, 1, none⟩ = some (.int .i64 hi) ∧ w.heap.size + 2 < (W.drewN n).heap.size ∧ (∀ j : Nat, (W.drewN n).frozen? ⟨w.heap.size + 2, j, none⟩ = false) ∧ At (W.drewN n) (w.heap.size + 2) [.int .i64 0, .int .i64 0] ∧ Below w.heap.size w (W.drewN n) := by
  obtain ⟨h0, h1, h2, h3, h4, h5, h6, h7, h8, h9, h10, h11, hl, hf, ha, hB⟩ := h
  exact ⟨h0, h1, h2, h3, h4, h5, h6, h7, h8, h9, h10, h11, hl, hf, ha, below_drewN hB n⟩
theorem keepC_drew1 {w W : World} {a0 a1 li cr m0 m1 w0 w1 r0 r1 lo hi : Int} (h : W.cell? ⟨w.heap.size, 0, none⟩ = some (.int .i64 a0) ∧ W.cell? ⟨w.heap.size, 1, none⟩ = some (.int .i64 a1) ∧ W.cell? ⟨w.heap.size, 2, none⟩ = some (.int .i64 li) ∧ W.cell? ⟨w.heap.size, 3, none⟩ = some (.int .i64 cr) ∧ W.cell? ⟨w.heap.size, 4, none⟩ = some (.int .i64 m0) ∧ W.cell? ⟨w.heap.size, 5, none⟩ = some (.int .i64 m1) ∧ W.cell? ⟨w.heap.size, 6, none⟩ = some (.int .i64 w0) ∧ W.cell? ⟨w.heap.size, 7, none⟩ = some (.int .i64 w1) ∧ W.cell? ⟨w.heap.size, 8, none⟩ = some (.int .i64 r0) ∧ W.cell? ⟨w.heap.size, 9, none⟩ = some (.int .i64 r1) ∧ W.cell? ⟨w.heap.size + 1, 0, none⟩ = some (.int .i64 lo) ∧ W.cell? ⟨w.heap.size + 1, 1, none⟩ = some (.int .i64 hi) ∧ w.heap.size + 2 < W.heap.size ∧ (∀ j : Nat, W.frozen? ⟨w.heap.size + 2, j, none⟩ = false) ∧ At W (w.heap.size + 2) [.int .i64 0, .int .i64 0] ∧ Below w.heap.size w W) : W.drew.cell? ⟨w.heap.size, 0, none⟩ = some (.int .i64 a0) ∧ W.drew.cell? ⟨w.heap.size, 1, none⟩ = some (.int .i64 a1) ∧ W.drew.cell? ⟨w.heap.size, 2, none⟩ = some (.int .i64 li) ∧ W.drew.cell? ⟨w.heap.size, 3, none⟩ = some (.int .i64 cr) ∧ W.drew.cell? ⟨w.heap.size, 4, none⟩ = some (.int .i64 m0) ∧ W.drew.cell? ⟨w.heap.size, 5, none⟩ = some (.int .i64 m1) ∧ W.drew.cell? ⟨w.heap.size, 6, none⟩ = some (.int .i64 w0) ∧ W.drew.cell? ⟨w.heap.size, 7, none⟩ = some (.int .i64 w1) ∧ W.drew.cell? ⟨w.heap.size, 8, none⟩ = some (.int .i64 r0) ∧ W.drew.cell? ⟨w.heap.size, 9, none⟩ = some (.int .i64 r1) ∧ W.drew.cell? ⟨w.heap.size + 1, 0, none⟩ = some (.int .i64 lo) ∧ W.drew.cell? ⟨w.heap.size + 1, 1, none⟩ = some (.int .i64 hi) ∧ w.heap.size + 2 < W.drew.heap.size ∧ (∀ j : Nat, W.drew.frozen? ⟨w.heap.size + 2, j, none⟩ = false) ∧ At W.drew (w.heap.size + 2) [.int .i64 0, .int .i64 0] ∧ Below w.heap.size w W.drew := by
  obtain ⟨h0, h1, h2, h3, h4, h5, h6, h7, h8, h9, h10, h11, hl, hf, ha, hB⟩ := h
  exact ⟨h0, h1, h2, h3, h4, h5, h6, h7, h8, h9, h10, h11, hl, hf, ha, hB.drew⟩

theorem lastC {w W : World} {a0 a1 li cr m0 m1 w0 w1 r0 r1 lo hi : Int} (h : W.cell? ⟨w.heap.size, 0, none⟩ = some (.int .i64 a0) ∧ W.cell? ⟨w.heap.size, 1, none⟩ = some (.int .i64 a1) ∧ W.cell? ⟨w.heap.size, 2, none⟩ = some (.int .i64 li) ∧ W.cell? ⟨w.heap.size, 3, none⟩ = some (.int .i64 cr) ∧ W.cell? ⟨w.heap.size, 4, none⟩ = some (.int .i64 m0) ∧ W.cell? ⟨w.heap.size, 5, none⟩ = some (.int .i64 m1) ∧ W.cell? ⟨w.heap.size, 6, none⟩ = some (.int .i64 w0) ∧ W.cell? ⟨w.heap.size, 7, none⟩ = some (.int .i64 w1) ∧ W.cell? ⟨w.heap.size, 8, none⟩ = some (.int .i64 r0) ∧ W.cell? ⟨w.heap.size, 9, none⟩ = some (.int .i64 r1) ∧ W.cell? ⟨w.heap.size + 1, 0, none⟩ = some (.int .i64 lo) ∧ W.cell? ⟨w.heap.size + 1, 1, none⟩ = some (.int .i64 hi) ∧ w.heap.size + 2 < W.heap.size ∧ (∀ j : Nat, W.frozen? ⟨w.heap.size + 2, j, none⟩ = false) ∧ At W (w.heap.size + 2) [.int .i64 0, .int .i64 0] ∧ Below w.heap.size w W) : W.cell? ⟨w.heap.size + 1 + 1, 0, none⟩ = some (.int .i64 0) ∧ W.cell? ⟨w.heap.size + 1 + 1, 1, none⟩ = some (.int .i64 0) ∧ W.frozen? ⟨w.heap.size + 1 + 1, 0, none⟩ = false ∧ W.frozen? ⟨w.heap.size + 1 + 1, 1, none⟩ = false ∧ Below w.heap.size w W := by
  obtain ⟨h0, h1, h2, h3, h4, h5, h6, h7, h8, h9, h10, h11, hl, hf, ha, hB⟩ := h
  exact ⟨ha.c2.1, ha.c2.2, hf 0, hf 1, hB⟩
theorem ret_two {a b c d : Int} (h : a = c) (k : b = d) : Ending.returned (.agg #[.int .i64 a, .int .i64 b]) = .returned (.agg #[.int .i64 c, .int .i64 d]) := by rw [h, k]
/-- The cycle of the reference. -/
def refLo (s : So) (w : Sp) : Int := min (saltedF false s w.lo) (saltedF false s w.hi)
def refHi (s : So) (w : Sp) : Int := max (saltedF true s w.lo) (saltedF true s w.hi)
theorem cycle_lo (s : So) (w : Sp) {B : Int} (hf : s.fit B) (h1 : w.lo ≤ w.hi) : (cycleF s w).lo = max 0 (refLo s w) / 1000 := by
  have h : min (saltedF false s w.lo) (saltedF false s w.hi) ≤ saltedF false s (min (max s.crop w.lo) w.hi) := by
    by_cases c1 : s.crop < w.lo
    · rw [show min (max s.crop w.lo) w.hi = w.lo by omega]; omega
    · by_cases c2 : w.hi < s.crop
      · rw [show min (max s.crop w.lo) w.hi = w.hi by omega]; omega
      · rw [show min (max s.crop w.lo) w.hi = s.crop by omega]
        have hm : w.lo * s.mineral.lo ≤ s.crop * s.mineral.lo := Int.mul_le_mul_of_nonneg_right (by omega) hf.m0.1
        have e1 : max 0 (w.lo - s.crop) = 0 := by omega
        have e2 : max 0 (s.crop - s.crop) = 0 := by omega
        have : saltedF false s w.lo ≤ saltedF false s s.crop := by
          simp only [saltedF, Sp.at, Bool.false_eq_true, if_false, e1, e2, Int.zero_mul]
          omega
        omega
  show roundF false (max 0 (min (min (saltedF false s w.lo) (saltedF false s w.hi)) (saltedF false s (min (max s.crop w.lo) w.hi)))) = _
  rw [show min (min (saltedF false s w.lo) (saltedF false s w.hi)) (saltedF false s (min (max s.crop w.lo) w.hi)) = min (saltedF false s w.lo) (saltedF false s w.hi) by omega]
  rfl
theorem cycle_hi (s : So) (w : Sp) (h1 : w.lo ≤ w.hi) : (cycleF s w).hi = (max 0 (if inB w.lo w.hi s.crop then max (refHi s w) (saltedF true s s.crop) else refHi s w) + 999) / 1000 := by
  show roundF true (max 0 (max (max (saltedF true s w.lo) (saltedF true s w.hi)) (saltedF true s (min (max s.crop w.lo) w.hi)))) = _
  have hr : refHi s w = max (saltedF true s w.lo) (saltedF true s w.hi) := rfl
  cases hc : inB w.lo w.hi s.crop
  · have : s.crop < w.lo ∨ w.hi < s.crop := by simp [inB] at hc; omega
    rcases this with c | c
    · rw [show min (max s.crop w.lo) w.hi = w.lo by omega]
      simp only [roundF, if_true, Bool.false_eq_true, if_false, hr]
      congr 2; omega
    · rw [show min (max s.crop w.lo) w.hi = w.hi by omega]
      simp only [roundF, if_true, Bool.false_eq_true, if_false, hr]
      congr 2; omega
  · have : w.lo ≤ s.crop ∧ s.crop ≤ w.hi := by simpa [inB] using hc
    rw [show min (max s.crop w.lo) w.hi = s.crop by omega]
    simp only [roundF, if_true, hr]

set_option maxHeartbeats 8000000 in
set_option maxRecDepth 100000 in
theorem rcycle_any (a0 a1 li cr m0 m1 w0 w1 r0 r1 lo hi : Int) (w : World) (hf : So.fit 100000000000000 ⟨⟨a0, a1⟩, li, cr, ⟨m0, m1⟩, ⟨w0, w1⟩, ⟨r0, r1⟩⟩) (hlo : 0 ≤ lo) (hh : lo ≤ hi) (hhi : hi ≤ 1000000000) :
    Calls Try.prog 53 #[.agg #[.int .i64 a0, .int .i64 a1, .int .i64 li, .int .i64 cr, .int .i64 m0, .int .i64 m1, .int .i64 w0, .int .i64 w1, .int .i64 r0, .int .i64 r1], .agg #[.int .i64 lo, .int .i64 hi]] w fun e w' => e = .returned (.agg #[.int .i64 (cycleF ⟨⟨a0, a1⟩, li, cr, ⟨m0, m1⟩, ⟨w0, w1⟩, ⟨r0, r1⟩⟩ ⟨lo, hi⟩).lo, .int .i64 (cycleF ⟨⟨a0, a1⟩, li, cr, ⟨m0, m1⟩, ⟨w0, w1⟩, ⟨r0, r1⟩⟩ ⟨lo, hi⟩).hi]) ∧ Below w.heap.size w w' := by
  have hx := cycle_lo ⟨⟨a0, a1⟩, li, cr, ⟨m0, m1⟩, ⟨w0, w1⟩, ⟨r0, r1⟩⟩ ⟨lo, hi⟩ hf hh
  have hy := cycle_hi ⟨⟨a0, a1⟩, li, cr, ⟨m0, m1⟩, ⟨w0, w1⟩, ⟨r0, r1⟩⟩ ⟨lo, hi⟩ hh
  obtain ⟨x, y, hxy⟩ : ∃ x y, cycleF ⟨⟨a0, a1⟩, li, cr, ⟨m0, m1⟩, ⟨w0, w1⟩, ⟨r0, r1⟩⟩ ⟨lo, hi⟩ = ⟨x, y⟩ := ⟨_, _, rfl⟩
  rw [hxy] at hx hy ⊢
  obtain ⟨L0, hL0⟩ : ∃ z, z = saltedF false ⟨⟨a0, a1⟩, li, cr, ⟨m0, m1⟩, ⟨w0, w1⟩, ⟨r0, r1⟩⟩ lo := ⟨_, rfl⟩
  obtain ⟨L1, hL1⟩ : ∃ z, z = saltedF false ⟨⟨a0, a1⟩, li, cr, ⟨m0, m1⟩, ⟨w0, w1⟩, ⟨r0, r1⟩⟩ hi := ⟨_, rfl⟩
  obtain ⟨M0, hM0⟩ : ∃ z, z = saltedF true ⟨⟨a0, a1⟩, li, cr, ⟨m0, m1⟩, ⟨w0, w1⟩, ⟨r0, r1⟩⟩ lo := ⟨_, rfl⟩
  obtain ⟨M1, hM1⟩ : ∃ z, z = saltedF true ⟨⟨a0, a1⟩, li, cr, ⟨m0, m1⟩, ⟨w0, w1⟩, ⟨r0, r1⟩⟩ hi := ⟨_, rfl⟩
  obtain ⟨MC, hMC⟩ : ∃ z, z = saltedF true ⟨⟨a0, a1⟩, li, cr, ⟨m0, m1⟩, ⟨w0, w1⟩, ⟨r0, r1⟩⟩ cr := ⟨_, rfl⟩
  have hcr := hf.cr
  have b0 := saltedF_bds (h := false) hf hlo (by omega : lo ≤ 1000000000)
  have b1 := saltedF_bds (h := false) hf (by omega : 0 ≤ hi) hhi
  have b2 := saltedF_bds (h := true) hf hlo (by omega : lo ≤ 1000000000)
  have b3 := saltedF_bds (h := true) hf (by omega : 0 ≤ hi) hhi
  have b4 := saltedF_bds (h := true) hf hcr.1 hcr.2
  simp only [refLo, refHi] at hx hy
  have hMC' : saltedF true ⟨⟨a0, a1⟩, li, cr, ⟨m0, m1⟩, ⟨w0, w1⟩, ⟨r0, r1⟩⟩ (⟨⟨a0, a1⟩, li, cr, ⟨m0, m1⟩, ⟨w0, w1⟩, ⟨r0, r1⟩⟩ : So).crop = MC := hMC.symm
  rw [hMC'] at hy b4
  rw [← hL0, ← hL1] at hx
  rw [← hM0, ← hM1] at hy
  rw [← hL0] at b0
  rw [← hL1] at b1
  rw [← hM0] at b2
  rw [← hM1] at b3
  clear hMC' hxy
  have Hx := hide hx; have Hy := hide hy; have Hf := hide hf
  have HL0 := hide hL0; have HL1 := hide hL1; have HM0 := hide hM0; have HM1 := hide hM1; have HMC := hide hMC
  have hcr' : 0 ≤ cr ∧ cr ≤ 1000000000 := hcr
  clear hx hy hf hL0 hL1 hM0 hM1 hMC hcr
  obtain ⟨wd, Hwd⟩ : ∃ wd, Hid ((((w.alloc (.cells #[.int .i64 a0, .int .i64 a1, .int .i64 li, .int .i64 cr, .int .i64 m0, .int .i64 m1, .int .i64 w0, .int .i64 w1, .int .i64 r0, .int .i64 r1] 25)).alloc (.cells #[.int .i64 lo, .int .i64 hi] 23)).alloc (.cells #[.int .i64 0, .int .i64 0] 23)) = wd) := ⟨_, hide rfl⟩
  have HcB := hide (show wd.cell? ⟨w.heap.size, 0, none⟩ = some (.int .i64 a0) ∧ wd.cell? ⟨w.heap.size, 1, none⟩ = some (.int .i64 a1) ∧ wd.cell? ⟨w.heap.size, 2, none⟩ = some (.int .i64 li) ∧ wd.cell? ⟨w.heap.size, 3, none⟩ = some (.int .i64 cr) ∧ wd.cell? ⟨w.heap.size, 4, none⟩ = some (.int .i64 m0) ∧ wd.cell? ⟨w.heap.size, 5, none⟩ = some (.int .i64 m1) ∧ wd.cell? ⟨w.heap.size, 6, none⟩ = some (.int .i64 w0) ∧ wd.cell? ⟨w.heap.size, 7, none⟩ = some (.int .i64 w1) ∧ wd.cell? ⟨w.heap.size, 8, none⟩ = some (.int .i64 r0) ∧ wd.cell? ⟨w.heap.size, 9, none⟩ = some (.int .i64 r1) ∧ wd.cell? ⟨w.heap.size + 1, 0, none⟩ = some (.int .i64 lo) ∧ wd.cell? ⟨w.heap.size + 1, 1, none⟩ = some (.int .i64 hi) ∧ w.heap.size + 2 < wd.heap.size ∧ (∀ j : Nat, wd.frozen? ⟨w.heap.size + 2, j, none⟩ = false) ∧ At wd (w.heap.size + 2) [.int .i64 0, .int .i64 0] ∧ Below w.heap.size w wd from by
    rw [← Hwd.out]
    obtain ⟨q0, q1, q2, q3, q4, q5, q6, q7, q8, q9⟩ := ((At.new w #[.int .i64 a0, .int .i64 a1, .int .i64 li, .int .i64 cr, .int .i64 m0, .int .i64 m1, .int .i64 w0, .int .i64 w1, .int .i64 r0, .int .i64 r1] 25 w.heap.size rfl _ rfl).alloc (.cells #[.int .i64 lo, .int .i64 hi] 23) |>.alloc (.cells #[.int .i64 0, .int .i64 0] 23)).c10
    obtain ⟨z0, z1⟩ := ((At.new (w.alloc (.cells #[.int .i64 a0, .int .i64 a1, .int .i64 li, .int .i64 cr, .int .i64 m0, .int .i64 m1, .int .i64 w0, .int .i64 w1, .int .i64 r0, .int .i64 r1] 25)) #[.int .i64 lo, .int .i64 hi] 23 (w.heap.size + 1) (by simp) _ rfl).alloc (.cells #[.int .i64 0, .int .i64 0] 23)).c2
    exact ⟨q0, q1, q2, q3, q4, q5, q6, q7, q8, q9, z0, z1, by simp, fun j => At.frozen_new ((w.alloc _).alloc _) #[.int .i64 0, .int .i64 0] _ _ (by simp) j, At.new ((w.alloc _).alloc _) #[.int .i64 0, .int .i64 0] _ _ (by simp) _ rfl, ((below_new w _).alloc (by simp) _).alloc (by simp; omega) _⟩)
  go_enter Try.func53, Try.ntmps53
  go_wp2_with fail
  rw [Hwd.out]
  go_region_held3 (fun W => W.cell? ⟨w.heap.size, 0, none⟩ = some (.int .i64 a0) ∧ W.cell? ⟨w.heap.size, 1, none⟩ = some (.int .i64 a1) ∧ W.cell? ⟨w.heap.size, 2, none⟩ = some (.int .i64 li) ∧ W.cell? ⟨w.heap.size, 3, none⟩ = some (.int .i64 cr) ∧ W.cell? ⟨w.heap.size, 4, none⟩ = some (.int .i64 m0) ∧ W.cell? ⟨w.heap.size, 5, none⟩ = some (.int .i64 m1) ∧ W.cell? ⟨w.heap.size, 6, none⟩ = some (.int .i64 w0) ∧ W.cell? ⟨w.heap.size, 7, none⟩ = some (.int .i64 w1) ∧ W.cell? ⟨w.heap.size, 8, none⟩ = some (.int .i64 r0) ∧ W.cell? ⟨w.heap.size, 9, none⟩ = some (.int .i64 r1) ∧ W.cell? ⟨w.heap.size + 1, 0, none⟩ = some (.int .i64 lo) ∧ W.cell? ⟨w.heap.size + 1, 1, none⟩ = some (.int .i64 hi) ∧ w.heap.size + 2 < W.heap.size ∧ (∀ j : Nat, W.frozen? ⟨w.heap.size + 2, j, none⟩ = false) ∧ At W (w.heap.size + 2) [.int .i64 0, .int .i64 0] ∧ Below w.heap.size w W) (first | assumption | exact keepC_drew1 HcB.out | exact keepC hb (by assumption)) (first | (go_at_call 91; refine (least_any a0 a1 li cr m0 m1 w0 w1 r0 r1 _ _ Hf.out (by omega) (by omega)).mono ?_; rintro e w' ⟨rfl, hb⟩; first | rw [← HL0.out] | rw [← HL1.out]))
  all_goals
    go_wp2_with fail
    go_region_held3 (fun W => W.cell? ⟨w.heap.size, 0, none⟩ = some (.int .i64 a0) ∧ W.cell? ⟨w.heap.size, 1, none⟩ = some (.int .i64 a1) ∧ W.cell? ⟨w.heap.size, 2, none⟩ = some (.int .i64 li) ∧ W.cell? ⟨w.heap.size, 3, none⟩ = some (.int .i64 cr) ∧ W.cell? ⟨w.heap.size, 4, none⟩ = some (.int .i64 m0) ∧ W.cell? ⟨w.heap.size, 5, none⟩ = some (.int .i64 m1) ∧ W.cell? ⟨w.heap.size, 6, none⟩ = some (.int .i64 w0) ∧ W.cell? ⟨w.heap.size, 7, none⟩ = some (.int .i64 w1) ∧ W.cell? ⟨w.heap.size, 8, none⟩ = some (.int .i64 r0) ∧ W.cell? ⟨w.heap.size, 9, none⟩ = some (.int .i64 r1) ∧ W.cell? ⟨w.heap.size + 1, 0, none⟩ = some (.int .i64 lo) ∧ W.cell? ⟨w.heap.size + 1, 1, none⟩ = some (.int .i64 hi) ∧ w.heap.size + 2 < W.heap.size ∧ (∀ j : Nat, W.frozen? ⟨w.heap.size + 2, j, none⟩ = false) ∧ At W (w.heap.size + 2) [.int .i64 0, .int .i64 0] ∧ Below w.heap.size w W) (first | assumption | (refine keepC_drew1 ?_; assumption) | (refine keepC hb ?_; assumption)) (first | (go_at_call 92; refine (most_any a0 a1 li cr m0 m1 w0 w1 r0 r1 _ _ Hf.out (by omega) (by omega)).mono ?_; rintro e w' ⟨rfl, hb⟩; first | rw [← HM0.out] | rw [← HM1.out]))
  all_goals
    obtain ⟨z0, z1, f0, f1, hB⟩ := lastC (by assumption)
    cases hi0 : inB lo hi cr
    all_goals
      have Hi := hide hi0; clear hi0
      go_wp2_with (first | (go_at_call 52; refine (aflajref06_within _ _ _ _).mono ?_; rintro e w' ⟨rfl, rfl⟩; rw [Hi.out]) | (go_at_call 92; refine (most_any a0 a1 li cr m0 m1 w0 w1 r0 r1 _ _ Hf.out (by omega) (by omega)).mono ?_; rintro e w' ⟨rfl, hb⟩; rw [← HMC.out]; have hS := keepC hb (by assumption); obtain ⟨z0, z1, f0, f1, hB⟩ := lastC hS))
      have k0 := fun X Y => (two_set _ _ X Y z0 z1).1
      have k1 := fun X Y => (two_set _ _ X Y z0 z1).2
      refine bodyPost_ret (by simp [results, Try.results53, go_sem, k0, k1]; try rfl) rfl ?_
      refine ⟨ret_two ?_ ?_, (hB.setCell (by simp; omega) _).setCell (by simp; omega) _⟩
      · rw [Hx.out]
        try omega
      · rw [Hy.out, Hi.out]
        simp only [if_true, Bool.false_eq_true, if_false, wrap64, IntKind.wrap_i64]
        try omega
end Go.Proofs.Ytmbhnjpaieimbaa
