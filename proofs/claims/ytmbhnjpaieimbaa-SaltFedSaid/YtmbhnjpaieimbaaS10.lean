/- The reference of salt: a cycle, by contracts. The reference of salt: After, by contracts. Salt: what a field needs, by contracts. Salt: Need, by contracts. -/
import Derived.Test.YtmbhnjpaieimbaaS7
import Derived.Deep.RegionHeld3
set_option linter.unusedVariables false
set_option linter.unusedSimpArgs false
namespace Go.Proofs.Ytmbhnjpaieimbaa
open Go.RowKit Go.Shelf
attribute [local go_sem] ite_min ite_max
theorem then_wrap {a r v m cr w : Int} (ha : 0 ≤ a ∧ a ≤ 100000000000000) (hr : 0 ≤ r ∧ r ≤ 100000000) (hv : 0 ≤ v ∧ v ≤ 1000000000) (hm : 0 ≤ m ∧ m ≤ 100000) (hcr : 0 ≤ cr ∧ cr ≤ 1000000000) (hw : 0 ≤ w ∧ w ≤ 100000) :
    wrap64 (wrap64 (wrap64 (1000 * wrap64 (a + r)) + wrap64 (v * m)) - wrap64 (w * max 0 (wrap64 (v - cr)))) = 1000 * (a + r) + v * m - max 0 (v - cr) * w := by
  have p1 := prod_le hv.1 hm.1 hv.2 hm.2
  have hx : 0 ≤ max 0 (v - cr) ∧ max 0 (v - cr) ≤ 1000000000 := by omega
  have p2 := prod_le hx.1 hw.1 hx.2 hw.2
  rw [show wrap64 (v - cr) = v - cr by unfold wrap64; omega, Int.mul_comm w]
  generalize v * m = x at *
  generalize max 0 (v - cr) * w = y at *
  simp only [wrap64]
  omega
set_option maxHeartbeats 1000000 in
theorem then_any (a m wa r cr v : Int) (w : World) (ha : 0 ≤ a ∧ a ≤ 100000000000000) (hr : 0 ≤ r ∧ r ≤ 100000000) (hv : 0 ≤ v ∧ v ≤ 1000000000) (hm : 0 ≤ m ∧ m ≤ 100000) (hcr : 0 ≤ cr ∧ cr ≤ 1000000000) (hw : 0 ≤ wa ∧ wa ≤ 100000) :
    Calls Try.prog 127 #[.int .i64 a, .int .i64 m, .int .i64 wa, .int .i64 r, .int .i64 cr, .int .i64 v] w fun e w' => e = .returned (.int .i64 (1000 * (a + r) + v * m - max 0 (v - cr) * wa)) ∧ w = w' := by
  have ha' := hide ha; have hr' := hide hr; have hv' := hide hv; have hm' := hide hm; have hcr' := hide hcr; have hw' := hide hw
  clear ha hr hv hm hcr hw
  go_enter Try.func127, Try.ntmps127
  go_wp2
  go_ret
  exact ⟨ret_int (then_wrap ha'.out hr'.out hv'.out hm'.out hcr'.out hw'.out), rfl⟩

set_option maxHeartbeats 1000000 in
theorem least_any (a0 a1 li cr m0 m1 w0 w1 r0 r1 v : Int) (w : World) (hf : So.fit 100000000000000 ⟨⟨a0, a1⟩, li, cr, ⟨m0, m1⟩, ⟨w0, w1⟩, ⟨r0, r1⟩⟩) (h0 : 0 ≤ v) (h1 : v ≤ 1000000000) :
    Calls Try.prog 91 #[.agg #[.int .i64 a0, .int .i64 a1, .int .i64 li, .int .i64 cr, .int .i64 m0, .int .i64 m1, .int .i64 w0, .int .i64 w1, .int .i64 r0, .int .i64 r1], .int .i64 v] w fun e w' => e = .returned (.int .i64 (saltedF false ⟨⟨a0, a1⟩, li, cr, ⟨m0, m1⟩, ⟨w0, w1⟩, ⟨r0, r1⟩⟩ v)) ∧ Below w.heap.size w w' := by
  have Hf := hide hf; clear hf
  go_enter Try.func91, Try.ntmps91
  go_wp2_with (go_at_call 127; refine (then_any _ _ _ _ _ _ _ Hf.out.a0 Hf.out.r0 ⟨h0, h1⟩ Hf.out.m0 Hf.out.cr Hf.out.w1).mono ?_; rintro e w' ⟨rfl, rfl⟩)
  go_ret
  exact ⟨rfl, below_new _ _⟩

set_option maxHeartbeats 1000000 in
theorem most_any (a0 a1 li cr m0 m1 w0 w1 r0 r1 v : Int) (w : World) (hf : So.fit 100000000000000 ⟨⟨a0, a1⟩, li, cr, ⟨m0, m1⟩, ⟨w0, w1⟩, ⟨r0, r1⟩⟩) (h0 : 0 ≤ v) (h1 : v ≤ 1000000000) :
    Calls Try.prog 92 #[.agg #[.int .i64 a0, .int .i64 a1, .int .i64 li, .int .i64 cr, .int .i64 m0, .int .i64 m1, .int .i64 w0, .int .i64 w1, .int .i64 r0, .int .i64 r1], .int .i64 v] w fun e w' => e = .returned (.int .i64 (saltedF true ⟨⟨a0, a1⟩, li, cr, ⟨m0, m1⟩, ⟨w0, w1⟩, ⟨r0, r1⟩⟩ v)) ∧ Below w.heap.size w w' := by
  have Hf := hide hf; clear hf
  go_enter Try.func92, Try.ntmps92
  go_wp2_with (go_at_call 127; refine (then_any _ _ _ _ _ _ _ Hf.out.a1 Hf.out.r1 ⟨h0, h1⟩ Hf.out.m1 Hf.out.cr Hf.out.w0).mono ?_; rintro e w' ⟨rfl, rfl⟩)
  go_ret
  exact ⟨rfl, below_new _ _⟩

theorem keepC {w W W' : World} {a0 a1 li cr m0 m1 w0 w1 r0 r1 lo hi : Int} (hb : Below W.heap.size W W') (h : W.cell? ⟨w.heap.size, 0, none⟩ = some (.int .i64 a0) ∧ W.cell? ⟨w.heap.size, 1, none⟩ = some (.int .i64 a1) ∧ W.cell? ⟨w.heap.size, 2, none⟩ = some (.int .i64 li) ∧ W.cell? ⟨w.heap.size, 3, none⟩ = some (.int .i64 cr) ∧ W.cell? ⟨w.heap.size, 4, none⟩ = some (.int .i64 m0) ∧ W.cell? ⟨w.heap.size, 5, none⟩ = some (.int .i64 m1) ∧ W.cell? ⟨w.heap.size, 6, none⟩ = some (.int .i64 w0) ∧ W.cell? ⟨w.heap.size, 7, none⟩ = some (.int .i64 w1) ∧ W.cell? ⟨w.heap.size, 8, none⟩ = some (.int .i64 r0) ∧ W.cell? ⟨w.heap.size, 9, none⟩ = some (.int .i64 r1) ∧ W.cell? ⟨w.heap.size + 1, 0, none⟩ = some (.int .i64 lo) ∧ W.cell? ⟨w.heap.size + 1, 1, none⟩ = some (.int .i64 hi) ∧ w.heap.size + 2 < W.heap.size ∧ (∀ j : Nat, W.frozen? ⟨w.heap.size + 2, j, none⟩ = false) ∧ At W (w.heap.size + 2) [.int .i64 0, .int .i64 0] ∧ Below w.heap.size w W) : W'.cell? ⟨w.heap.size, 0, none⟩ = some (.int .i64 a0) ∧ W'.cell? ⟨w.heap.size, 1, none⟩ = some (.int .i64 a1) ∧ W'.cell? ⟨w.heap.size, 2, none⟩ = some (.int .i64 li) ∧ W'.cell? ⟨w.heap.size, 3, none⟩ = some (.int .i64 cr) ∧ W'.cell? ⟨w.heap.size, 4, none⟩ = some (.int .i64 m0) ∧ W'.cell? ⟨w.heap.size, 5, none⟩ = some (.int .i64 m1) ∧ W'.cell? ⟨w.heap.size, 6, none⟩ = some (.int .i64 w0) ∧ W'.cell? ⟨w.heap.size, 7, none⟩ = some (.int .i64 w1) ∧ W'.cell? ⟨w.heap.size, 8, none⟩ = some (.int .i64 r0) ∧ W'.cell? ⟨w.heap.size, 9, none⟩ = some (.int .i64 r1) ∧ W'.cell? ⟨w.heap.size + 1, 0, none⟩ = some (.int .i64 lo) ∧ W'.cell? ⟨w.heap.size + 1, 1, none⟩ = some (.int .i64 hi) ∧ w.heap.size + 2 < W'.heap.size ∧ (∀ j : Nat, W'.frozen? ⟨w.heap.size + 2, j, none⟩ = false) ∧ At W' (w.heap.size + 2) [.int .i64 0, .int .i64 0] ∧ Below w.heap.size w W' := by
  obtain ⟨h0, h1, h2, h3, h4, h5, h6, h7, h8, h9, h10, h11, hl, hf, ha, hB⟩ := h
  exact ⟨(hb.cell (by simp only []; omega)).trans h0, (hb.cell (by simp only []; omega)).trans h1, (hb.cell (by simp only []; omega)).trans h2, (hb.cell (by simp only []; omega)).trans h3, (hb.cell (by simp only []; omega)).trans h4, (hb.cell (by simp only []; omega)).trans h5, (hb.cell (by simp only []; omega)).trans h6, (hb.cell (by simp only []; omega)).trans h7, (hb.cell (by simp only []; omega)).trans h8, (hb.cell (by simp only []; omega)).trans h9, (hb.cell (by simp only []; omega)).trans h10, (hb.cell (by simp only []; omega)).trans h11, Nat.lt_of_lt_of_le hl hb.size, fun j => (hb.frozen (p := ⟨w.heap.size + 2, j, none⟩) hl).trans (hf j), ha.below hb, hB.trans (hb.mono hB.size)⟩
theorem keepC_drew {w W : World} {a0 a1 li cr m0 m1 w0 w1 r0 r1 lo hi : Int} (h : W.cell? ⟨w.heap.size, 0, none⟩ = some (.int .i64 a0) ∧ W.cell? ⟨w.heap.size, 1, none⟩ = some (.int .i64 a1) ∧ W.cell? ⟨w.heap.size, 2, none⟩ = some (.int .i64 li) ∧ W.cell? ⟨w.heap.size, 3, none⟩ = some (.int .i64 cr) ∧ W.cell? ⟨w.heap.size, 4, none⟩ = some (.int .i64 m0) ∧ W.cell? ⟨w.heap.size, 5, none⟩ = some (.int .i64 m1) ∧ W.cell? ⟨w.heap.size, 6, none⟩ = some (.int .i64 w0) ∧ W.cell? ⟨w.heap.size, 7, none⟩ = some (.int .i64 w1) ∧ W.cell? ⟨w.heap.size, 8, none⟩ = some (.int .i64 r0) ∧ W.cell? ⟨w.heap.size, 9, none⟩ = some (.int .i64 r1) ∧ W.cell? ⟨w.heap.size + 1, 0, none⟩ = some (.int .i64 lo) ∧ W.cell? ⟨w.heap.size + 1, 1, none⟩ = some (.int .i64 hi) ∧ w.heap.size + 2 < W.heap.size ∧ (∀ j : Nat, W.frozen? ⟨w.heap.size + 2, j, none⟩ = false) ∧ At W (w.heap.size + 2) [.int .i64 0, .int .i64 0] ∧ Below w.heap.size w W) (n : Nat) : (W.drewN n).cell? ⟨w.heap.size, 0, none⟩ = some (.int .i64 a0) ∧ (W.drewN n).cell? ⟨w.heap.size, 1, none⟩ = some (.int .i64 a1) ∧ (W.drewN n).cell? ⟨w.heap.size, 2, none⟩ = some (.int .i64 li) ∧ (W.drewN n).cell? ⟨w.heap.size, 3, none⟩ = some (.int .i64 cr) ∧ (W.drewN n).cell? ⟨w.heap.size, 4, none⟩ = some (.int .i64 m0) ∧ (W.drewN n).cell? ⟨w.heap.size, 5, none⟩ = some (.int .i64 m1) ∧ (W.drewN n).cell? ⟨w.heap.size, 6, none⟩ = some (.int .i64 w0) ∧ (W.drewN n).cell? ⟨w.heap.size, 7, none⟩ = some (.int .i64 w1) ∧ (W.drewN n).cell? ⟨w.heap.size, 8, none⟩ = some (.int .i64 r0) ∧ (W.drewN n).cell? ⟨w.heap.size, 9, none⟩ = some (.int .i64 r1) ∧ (W.drewN n).cell? ⟨w.heap.size + 1, 0, none⟩ = some (.int .i64 lo) ∧ (W.drewN n).cell? ⟨w.heap.size + 1, 1, none⟩ = some (.int .i64 hi) ∧ w.heap.size + 2 < (W.drewN n).heap.size ∧ (∀ j : Nat, (W.drewN n).frozen? ⟨w.heap.size + 2, j, none⟩ = false) ∧ At (W.drewN n) (w.heap.size + 2) [.int .i64 0, .int .i64 0] ∧ Below w.heap.size w (W.drewN n) := by
  obtain ⟨h0, h1, h2, h3, h4, h5, h6, h7, h8, h9, h10, h11, hl, hf, ha, hB⟩ := h
  exact ⟨h0, h1, h2, h3, h4, h5, h6, h7, h8, h9, h10, h11, hl, hf, ha, below_drewN hB n⟩
theorem keepC_drew1 {w W : World} {a0 a1 li cr m0 m1 w0 w1 r0 r1 lo hi : Int} (h : W.cell? ⟨w.heap.size, 0, none⟩ = some (.int .i64 a0) ∧ W.cell? ⟨w.heap.size, 1, none⟩ = some (.int .i64 a1) ∧ W.cell? ⟨w.heap.size, 2, none⟩ = some (.int .i64 li) ∧ W.cell? ⟨w.heap.size, 3, none⟩ = some (.int .i64 cr) ∧ W.cell? ⟨w.heap.size, 4, none⟩ = some (.int .i64 m0) ∧ W.cell? ⟨w.heap.size, 5, none⟩ = some (.int .i64 m1) ∧ W.cell? ⟨w.heap.size, 6, none⟩ = some (.int .i64 w0) ∧ W.cell? ⟨w.heap.size, 7, none⟩ = some (.int .i64 w1) ∧ W.cell? ⟨w.heap.size, 8, none⟩ = some (.int .i64 r0) ∧ W.cell? ⟨w.heap.size, 9, none⟩ = some (.int .i64 r1) ∧ W.cell? ⟨w.heap.size + 1, 0, none⟩ = some (.int .i64 lo) ∧ W.cell? ⟨w.heap.size + 1, 1, none⟩ = some (.int .i64 hi) ∧ w.heap.size + 2 < W.heap.size ∧ (∀ j : Nat, W.frozen? ⟨w.heap.size + 2, j, none⟩ = false) ∧ At W (w.heap.size + 2) [.int .i64 0, .int .i64 0] ∧ Below w.heap.size w W) : W.drew.cell? ⟨w.heap.size, 0, none⟩ = some (.int .i64 a0) ∧ W.drew.cell? ⟨w.heap.size, 1, none⟩ = some (.int .i64 a1) ∧ W.drew.cell? ⟨w.heap.size, 2, none⟩ = some (.int .i64 li) ∧ W.drew.cell? ⟨w.heap.size, 3, none⟩ = some (.int .i64 cr) ∧ W.drew.cell? ⟨w.heap.size, 4, none⟩ = some (.int .i64 m0) ∧ W.drew.cell? ⟨w.heap.size, 5, none⟩ = some (.int .i64 m1) ∧ W.drew.cell? ⟨w.heap.size, 6, none⟩ = some (.int .i64 w0) ∧ W.drew.cell? ⟨w.heap.size, 7, none⟩ = some (.int .i64 w1) ∧ W.drew.cell? ⟨w.heap.size, 8, none⟩ = some (.int .i64 r0) ∧ W.drew.cell? ⟨w.heap.size, 9, none⟩ = some (.int .i64 r1) ∧ W.drew.cell? ⟨w.heap.size + 1, 0, none⟩ = some (.int .i64 lo) ∧ W.drew.cell? ⟨w.heap.size + 1, 1, none⟩ = some (.int .i64 hi) ∧ w.heap.size + 2 < W.drew.heap.size ∧ (∀ j : Nat, W.drew.frozen? ⟨w.heap.size + 2, j, none⟩ = false) ∧ At W.drew (w.heap.size + 2) [.int .i64 0, .int .i64 0] ∧ Below w.heap.size w W.drew := by
  obtain ⟨h0, h1, h2, h3, h4, h5, h6, h7, h8, h9, h10, h11, hl, hf, ha, hB⟩ := h
  exact ⟨h0, h1, h2, h3, h4, h5, h6, h7, h8, h9, h10, h11, hl, hf, ha, hB.drew⟩

theorem lastC {w W : World} {a0 a1 li cr m0 m1 w0 w1 r0 r1 lo hi : Int} (h : W.cell? ⟨w.heap.size, 0, none⟩ = some (.int .i64 a0) ∧ W.cell? ⟨w.heap.size, 1, none⟩ = some (.int .i64 a1) ∧ W.cell? ⟨w.heap.size, 2, none⟩ = some (.int .i64 li) ∧ W.cell? ⟨w.heap.size, 3, none⟩ = some (.int .i64 cr) ∧ W.cell? ⟨w.heap.size, 4, none⟩ = some (.int .i64 m0) ∧ W.cell? ⟨w.heap.size, 5, none⟩ = some (.int .i64 m1) ∧ W.cell? ⟨w.heap.size, 6, none⟩ = some (.int .i64 w0) ∧ W.cell? ⟨w.heap.size, 7, none⟩ = some (.int .i64 w1) ∧ W.cell? ⟨w.heap.size, 8, none⟩ = some (.int .i64 r0) ∧ W.cell? ⟨w.heap.size, 9, none⟩ = some (.int .i64 r1) ∧ W.cell? ⟨w.heap.size + 1, 0, none⟩ = some (.int .i64 lo) ∧ W.cell? ⟨w.heap.size + 1, 1, none⟩ = some (.int .i64 hi) ∧ w.heap.size + 2 < W.heap.size ∧ (∀ j : Nat, W.frozen? ⟨w.heap.size + 2, j, none⟩ = false) ∧ At W (w.heap.size + 2) [.int .i64 0, .int .i64 0] ∧ Below w.heap.size w W) : W.cell? ⟨w.heap.size + 1 + 1, 0, none⟩ = some (.int .i64 0) ∧ W.cell? ⟨w.heap.size + 1 + 1, 1, none⟩ = some (.int .i64 0) ∧ W.frozen? ⟨w.heap.size + 1 + 1, 0, none⟩ = false ∧ W.frozen? ⟨w.heap.size + 1 + 1, 1, none⟩ = false ∧ Below w.heap.size w W := by
  obtain ⟨h0, h1, h2, h3, h4, h5, h6, h7, h8, h9, h10, h11, hl, hf, ha, hB⟩ := h
  exact ⟨ha.c2.1, ha.c2.2, hf 0, hf 1, hB⟩
theorem ret_two {a b c d : Int} (h : a = c) (k : b = d) : Ending.returned (.agg #[.int .i64 a, .int .i64 b]) = .returned (.agg #[.int .i64 c, .int .i64 d]) := by rw [h, k]
/-- The cycle of the reference. -/
def refLo (s : So) (w : Sp) : Int := min (saltedF false s w.lo) (saltedF false s w.hi)
def refHi (s : So) (w : Sp) : Int := max (saltedF true s w.lo) (saltedF true s w.hi)
theorem cycle_lo (s : So) (w : Sp) {B : Int} (hf : s.fit B) (h1 : w.lo ≤ w.hi) : (cycleF s w).lo = max 0 (refLo s w) / 1000 := by
  have h : min (saltedF false s w.lo) (saltedF false s w.hi) ≤ saltedF false s (min (max s.crop w.lo) w.hi) := by
    by_cases c1 : s.crop < w.lo
    · rw [show min (max s.crop w.lo) w.hi = w.lo by omega]; omega
    · by_cases c2 : w.hi < s.crop
      · rw [show min (max s.crop w.lo) w.hi = w.hi by omega]; omega
      · rw [show min (max s.crop w.lo) w.hi = s.crop by omega]
        have hm : w.lo * s.mineral.lo ≤ s.crop * s.mineral.lo := Int.mul_le_mul_of_nonneg_right (by omega) hf.m0.1
        have e1 : max 0 (w.lo - s.crop) = 0 := by omega
        have e2 : max 0 (s.crop - s.crop) = 0 := by omega
        have : saltedF false s w.lo ≤ saltedF false s s.crop := by
          simp only [saltedF, Sp.at, Bool.false_eq_true, if_false, e1, e2, Int.zero_mul]
          omega
        omega
  show roundF false (max 0 (min (min (saltedF false s w.lo) (saltedF false s w.hi)) (saltedF false s (min (max s.crop w.lo) w.hi)))) = _
  rw [show min (min (saltedF false s w.lo) (saltedF false s w.hi)) (saltedF false s (min (max s.crop w.lo) w.hi)) = min (saltedF false s w.lo) (saltedF false s w.hi) by omega]
  rfl
theorem cycle_hi (s : So) (w : Sp) (h1 : w.lo ≤ w.hi) : (cycleF s w).hi = (max 0 (if inB w.lo w.hi s.crop then max (refHi s w) (saltedF true s s.crop) else refHi s w) + 999) / 1000 := by
  show roundF true (max 0 (max (max (saltedF true s w.lo) (saltedF true s w.hi)) (saltedF true s (min (max s.crop w.lo) w.hi)))) = _
  have hr : refHi s w = max (saltedF true s w.lo) (saltedF true s w.hi) := rfl
  cases hc : inB w.lo w.hi s.crop
  · have : s.crop < w.lo ∨ w.hi < s.crop := by simp [inB] at hc; omega
    rcases this with c | c
    · rw [show min (max s.crop w.lo) w.hi = w.lo by omega]
      simp only [roundF, if_true, Bool.false_eq_true, if_false, hr]
      congr 2; omega
    · rw [show min (max s.crop w.lo) w.hi = w.hi by omega]
      simp only [roundF, if_true, Bool.false_eq_true, if_false, hr]
      congr 2; omega
  · have : w.lo ≤ s.crop ∧ s.crop ≤ w.hi := by simpa [inB] using hc
    rw [show min (max s.crop w.lo) w.hi = s.crop by omega]
    simp only [roundF, if_true, hr]

set_option maxHeartbeats 8000000 in
set_option maxRecDepth 100000 in
theorem rcycle_any (a0 a1 li cr m0 m1 w0 w1 r0 r1 lo hi : Int) (w : World) (hf : So.fit 100000000000000 ⟨⟨a0, a1⟩, li, cr, ⟨m0, m1⟩, ⟨w0, w1⟩, ⟨r0, r1⟩⟩) (hlo : 0 ≤ lo) (hh : lo ≤ hi) (hhi : hi ≤ 1000000000) :
    Calls Try.prog 53 #[.agg #[.int .i64 a0, .int .i64 a1, .int .i64 li, .int .i64 cr, .int .i64 m0, .int .i64 m1, .int .i64 w0, .int .i64 w1, .int .i64 r0, .int .i64 r1], .agg #[.int .i64 lo, .int .i64 hi]] w fun e w' => e = .returned (.agg #[.int .i64 (cycleF ⟨⟨a0, a1⟩, li, cr, ⟨m0, m1⟩, ⟨w0, w1⟩, ⟨r0, r1⟩⟩ ⟨lo, hi⟩).lo, .int .i64 (cycleF ⟨⟨a0, a1⟩, li, cr, ⟨m0, m1⟩, ⟨w0, w1⟩, ⟨r0, r1⟩⟩ ⟨lo, hi⟩).hi]) ∧ Below w.heap.size w w' := by
  have hx := cycle_lo ⟨⟨a0, a1⟩, li, cr, ⟨m0, m1⟩, ⟨w0, w1⟩, ⟨r0, r1⟩⟩ ⟨lo, hi⟩ hf hh
  have hy := cycle_hi ⟨⟨a0, a1⟩, li, cr, ⟨m0, m1⟩, ⟨w0, w1⟩, ⟨r0, r1⟩⟩ ⟨lo, hi⟩ hh
  obtain ⟨x, y, hxy⟩ : ∃ x y, cycleF ⟨⟨a0, a1⟩, li, cr, ⟨m0, m1⟩, ⟨w0, w1⟩, ⟨r0, r1⟩⟩ ⟨lo, hi⟩ = ⟨x, y⟩ := ⟨_, _, rfl⟩
  rw [hxy] at hx hy ⊢
  obtain ⟨L0, hL0⟩ : ∃ z, z = saltedF false ⟨⟨a0, a1⟩, li, cr, ⟨m0, m1⟩, ⟨w0, w1⟩, ⟨r0, r1⟩⟩ lo := ⟨_, rfl⟩
  obtain ⟨L1, hL1⟩ : ∃ z, z = saltedF false ⟨⟨a0, a1⟩, li, cr, ⟨m0, m1⟩, ⟨w0, w1⟩, ⟨r0, r1⟩⟩ hi := ⟨_, rfl⟩
  obtain ⟨M0, hM0⟩ : ∃ z, z = saltedF true ⟨⟨a0, a1⟩, li, cr, ⟨m0, m1⟩, ⟨w0, w1⟩, ⟨r0, r1⟩⟩ lo := ⟨_, rfl⟩
  obtain ⟨M1, hM1⟩ : ∃ z, z = saltedF true ⟨⟨a0, a1⟩, li, cr, ⟨m0, m1⟩, ⟨w0, w1⟩, ⟨r0, r1⟩⟩ hi := ⟨_, rfl⟩
  obtain ⟨MC, hMC⟩ : ∃ z, z = saltedF true ⟨⟨a0, a1⟩, li, cr, ⟨m0, m1⟩, ⟨w0, w1⟩, ⟨r0, r1⟩⟩ cr := ⟨_, rfl⟩
  have hcr := hf.cr
  have b0 := saltedF_bds (h := false) hf hlo (by omega : lo ≤ 1000000000)
  have b1 := saltedF_bds (h := false) hf (by omega : 0 ≤ hi) hhi
  have b2 := saltedF_bds (h := true) hf hlo (by omega : lo ≤ 1000000000)
  have b3 := saltedF_bds (h := true) hf (by omega : 0 ≤ hi) hhi
  have b4 := saltedF_bds (h := true) hf hcr.1 hcr.2
  simp only [refLo, refHi] at hx hy
  have hMC' : saltedF true ⟨⟨a0, a1⟩, li, cr, ⟨m0, m1⟩, ⟨w0, w1⟩, ⟨r0, r1⟩⟩ (⟨⟨a0, a1⟩, li, cr, ⟨m0, m1⟩, ⟨w0, w1⟩, ⟨r0, r1⟩⟩ : So).crop = MC := hMC.symm
  rw [hMC'] at hy b4
  rw [← hL0, ← hL1] at hx
  rw [← hM0, ← hM1] at hy
  rw [← hL0] at b0
  rw [← hL1] at b1
  rw [← hM0] at b2
  rw [← hM1] at b3
  clear hMC' hxy
  have Hx := hide hx; have Hy := hide hy; have Hf := hide hf
  have HL0 := hide hL0; have HL1 := hide hL1; have HM0 := hide hM0; have HM1 := hide hM1; have HMC := hide hMC
  have hcr' : 0 ≤ cr ∧ cr ≤ 1000000000 := hcr
  clear hx hy hf hL0 hL1 hM0 hM1 hMC hcr
  obtain ⟨wd, Hwd⟩ : ∃ wd, Hid ((((w.alloc (.cells #[.int .i64 a0, .int .i64 a1, .int .i64 li, .int .i64 cr, .int .i64 m0, .int .i64 m1, .int .i64 w0, .int .i64 w1, .int .i64 r0, .int .i64 r1] 25)).alloc (.cells #[.int .i64 lo, .int .i64 hi] 23)).alloc (.cells #[.int .i64 0, .int .i64 0] 23)) = wd) := ⟨_, hide rfl⟩
  have HcB := hide (show wd.cell? ⟨w.heap.size, 0, none⟩ = some (.int .i64 a0) ∧ wd.cell? ⟨w.heap.size, 1, none⟩ = some (.int .i64 a1) ∧ wd.cell? ⟨w.heap.size, 2, none⟩ = some (.int .i64 li) ∧ wd.cell? ⟨w.heap.size, 3, none⟩ = some (.int .i64 cr) ∧ wd.cell? ⟨w.heap.size, 4, none⟩ = some (.int .i64 m0) ∧ wd.cell? ⟨w.heap.size, 5, none⟩ = some (.int .i64 m1) ∧ wd.cell? ⟨w.heap.size, 6, none⟩ = some (.int .i64 w0) ∧ wd.cell? ⟨w.heap.size, 7, none⟩ = some (.int .i64 w1) ∧ wd.cell? ⟨w.heap.size, 8, none⟩ = some (.int .i64 r0) ∧ wd.cell? ⟨w.heap.size, 9, none⟩ = some (.int .i64 r1) ∧ wd.cell? ⟨w.heap.size + 1, 0, none⟩ = some (.int .i64 lo) ∧ wd.cell? ⟨w.heap.size + 1, 1, none⟩ = some (.int .i64 hi) ∧ w.heap.size + 2 < wd.heap.size ∧ (∀ j : Nat, wd.frozen? ⟨w.heap.size + 2, j, none⟩ = false) ∧ At wd (w.heap.size + 2) [.int .i64 0, .int .i64 0] ∧ Below w.heap.size w wd from by
    rw [← Hwd.out]
    obtain ⟨q0, q1, q2, q3, q4, q5, q6, q7, q8, q9⟩ := ((At.new w #[.int .i64 a0, .int .i64 a1, .int .i64 li, .int .i64 cr, .int .i64 m0, .int .i64 m1, .int .i64 w0, .int .i64 w1, .int .i64 r0, .int .i64 r1] 25 w.heap.size rfl _ rfl).alloc (.cells #[.int .i64 lo, .int .i64 hi] 23) |>.alloc (.cells #[.int .i64 0, .int .i64 0] 23)).c10
    obtain ⟨z0, z1⟩ := ((At.new (w.alloc (.cells #[.int .i64 a0, .int .i64 a1, .int .i64 li, .int .i64 cr, .int .i64 m0, .int .i64 m1, .int .i64 w0, .int .i64 w1, .int .i64 r0, .int .i64 r1] 25)) #[.int .i64 lo, .int .i64 hi] 23 (w.heap.size + 1) (by simp) _ rfl).alloc (.cells #[.int .i64 0, .int .i64 0] 23)).c2
    exact ⟨q0, q1, q2, q3, q4, q5, q6, q7, q8, q9, z0, z1, by simp, fun j => At.frozen_new ((w.alloc _).alloc _) #[.int .i64 0, .int .i64 0] _ _ (by simp) j, At.new ((w.alloc _).alloc _) #[.int .i64 0, .int .i64 0] _ _ (by simp) _ rfl, ((below_new w _).alloc (by simp) _).alloc (by simp; omega) _⟩)
  go_enter Try.func53, Try.ntmps53
  go_wp2_with fail
  rw [Hwd.out]
  go_region_held3 (fun W => W.cell? ⟨w.heap.size, 0, none⟩ = some (.int .i64 a0) ∧ W.cell? ⟨w.heap.size, 1, none⟩ = some (.int .i64 a1) ∧ W.cell? ⟨w.heap.size, 2, none⟩ = some (.int .i64 li) ∧ W.cell? ⟨w.heap.size, 3, none⟩ = some (.int .i64 cr) ∧ W.cell? ⟨w.heap.size, 4, none⟩ = some (.int .i64 m0) ∧ W.cell? ⟨w.heap.size, 5, none⟩ = some (.int .i64 m1) ∧ W.cell? ⟨w.heap.size, 6, none⟩ = some (.int .i64 w0) ∧ W.cell? ⟨w.heap.size, 7, none⟩ = some (.int .i64 w1) ∧ W.cell? ⟨w.heap.size, 8, none⟩ = some (.int .i64 r0) ∧ W.cell? ⟨w.heap.size, 9, none⟩ = some (.int .i64 r1) ∧ W.cell? ⟨w.heap.size + 1, 0, none⟩ = some (.int .i64 lo) ∧ W.cell? ⟨w.heap.size + 1, 1, none⟩ = some (.int .i64 hi) ∧ w.heap.size + 2 < W.heap.size ∧ (∀ j : Nat, W.frozen? ⟨w.heap.size + 2, j, none⟩ = false) ∧ At W (w.heap.size + 2) [.int .i64 0, .int .i64 0] ∧ Below w.heap.size w W) (first | assumption | exact keepC_drew1 HcB.out | exact keepC hb (by assumption)) (first | (go_at_call 91; refine (least_any a0 a1 li cr m0 m1 w0 w1 r0 r1 _ _ Hf.out (by omega) (by omega)).mono ?_; rintro e w' ⟨rfl, hb⟩; first | rw [← HL0.out] | rw [← HL1.out]))
  all_goals
    go_wp2_with fail
    go_region_held3 (fun W => W.cell? ⟨w.heap.size, 0, none⟩ = some (.int .i64 a0) ∧ W.cell? ⟨w.heap.size, 1, none⟩ = some (.int .i64 a1) ∧ W.cell? ⟨w.heap.size, 2, none⟩ = some (.int .i64 li) ∧ W.cell? ⟨w.heap.size, 3, none⟩ = some (.int .i64 cr) ∧ W.cell? ⟨w.heap.size, 4, none⟩ = some (.int .i64 m0) ∧ W.cell? ⟨w.heap.size, 5, none⟩ = some (.int .i64 m1) ∧ W.cell? ⟨w.heap.size, 6, none⟩ = some (.int .i64 w0) ∧ W.cell? ⟨w.heap.size, 7, none⟩ = some (.int .i64 w1) ∧ W.cell? ⟨w.heap.size, 8, none⟩ = some (.int .i64 r0) ∧ W.cell? ⟨w.heap.size, 9, none⟩ = some (.int .i64 r1) ∧ W.cell? ⟨w.heap.size + 1, 0, none⟩ = some (.int .i64 lo) ∧ W.cell? ⟨w.heap.size + 1, 1, none⟩ = some (.int .i64 hi) ∧ w.heap.size + 2 < W.heap.size ∧ (∀ j : Nat, W.frozen? ⟨w.heap.size + 2, j, none⟩ = false) ∧ At W (w.heap.size + 2) [.int .i64 0, .int .i64 0] ∧ Below w.heap.size w W) (first | assumption | (refine keepC_drew1 ?_; assumption) | (refine keepC hb ?_; assumption)) (first | (go_at_call 92; refine (most_any a0 a1 li cr m0 m1 w0 w1 r0 r1 _ _ Hf.out (by omega) (by omega)).mono ?_; rintro e w' ⟨rfl, hb⟩; first | rw [← HM0.out] | rw [← HM1.out]))
  all_goals
    obtain ⟨z0, z1, f0, f1, hB⟩ := lastC (by assumption)
    cases hi0 : inB lo hi cr
    all_goals
      have Hi := hide hi0; clear hi0
      go_wp2_with (first | (go_at_call 52; refine (aflajref06_within _ _ _ _).mono ?_; rintro e w' ⟨rfl, rfl⟩; rw [Hi.out]) | (go_at_call 92; refine (most_any a0 a1 li cr m0 m1 w0 w1 r0 r1 _ _ Hf.out (by omega) (by omega)).mono ?_; rintro e w' ⟨rfl, hb⟩; rw [← HMC.out]; have hS := keepC hb (by assumption); obtain ⟨z0, z1, f0, f1, hB⟩ := lastC hS))
      have k0 := fun X Y => (two_set _ _ X Y z0 z1).1
      have k1 := fun X Y => (two_set _ _ X Y z0 z1).2
      refine bodyPost_ret (by simp [results, Try.results53, go_sem, k0, k1]; try rfl) rfl ?_
      refine ⟨ret_two ?_ ?_, (hB.setCell (by simp; omega) _).setCell (by simp; omega) _⟩
      · rw [Hx.out]
        try omega
      · rw [Hy.out, Hi.out]
        simp only [if_true, Bool.false_eq_true, if_false, wrap64, IntKind.wrap_i64]
        try omega
end Go.Proofs.Ytmbhnjpaieimbaa
namespace Go.Proofs.Ytmbhnjpaieimbaa
open Go.RowKit Go.Shelf

set_option maxHeartbeats 8000000 in
set_option maxRecDepth 100000 in
theorem rafter_fn (a0 a1 li cr m0 m1 w0 w1 r0 r1 lo hi c : Int) (w : World) :
    Calls Try.prog 15 #[.agg #[.int .i64 a0, .int .i64 a1, .int .i64 li, .int .i64 cr, .int .i64 m0, .int .i64 m1, .int .i64 w0, .int .i64 w1, .int .i64 r0, .int .i64 r1], .agg #[.int .i64 lo, .int .i64 hi], .int .i64 c] w fun e w' => ∃ v, e = .returned (.tuple #[v, .int .i64 (afterE ⟨⟨a0, a1⟩, li, cr, ⟨m0, m1⟩, ⟨w0, w1⟩, ⟨r0, r1⟩⟩ ⟨lo, hi⟩ c)]) ∧ Own w' w.heap.size 23 2 Sp.cells v (afterV ⟨⟨a0, a1⟩, li, cr, ⟨m0, m1⟩, ⟨w0, w1⟩, ⟨r0, r1⟩⟩ ⟨lo, hi⟩ c) ∧ Below w.heap.size w w' := by
  obtain ⟨w3, Hw3⟩ : ∃ w3, Hid ((w.alloc (.cells #[.int .i64 a0, .int .i64 a1, .int .i64 li, .int .i64 cr, .int .i64 m0, .int .i64 m1, .int .i64 w0, .int .i64 w1, .int .i64 r0, .int .i64 r1] 25)).alloc (.cells #[.int .i64 lo, .int .i64 hi] 23) = w3) := ⟨_, hide rfl⟩
  have hB : Below w.heap.size w w3 := by rw [← Hw3.out]; exact (below_new _ _).alloc (by simp) _
  have hz3 : w3.heap.size = w.heap.size + 2 := by rw [← Hw3.out]; simp
  have hs : At w3 w.heap.size [.int .i64 a0, .int .i64 a1, .int .i64 li, .int .i64 cr, .int .i64 m0, .int .i64 m1, .int .i64 w0, .int .i64 w1, .int .i64 r0, .int .i64 r1] := by rw [← Hw3.out]; exact (At.new w #[.int .i64 a0, .int .i64 a1, .int .i64 li, .int .i64 cr, .int .i64 m0, .int .i64 m1, .int .i64 w0, .int .i64 w1, .int .i64 r0, .int .i64 r1] _ w.heap.size rfl _ rfl).alloc _
  have hw : At w3 (w.heap.size + 1) [.int .i64 lo, .int .i64 hi] := by rw [← Hw3.out]; exact At.new (w.alloc _) #[.int .i64 lo, .int .i64 hi] _ (w.heap.size + 1) (by simp) _ rfl
  have hfz : ∀ j : Nat, w3.frozen? ⟨w.heap.size, j, none⟩ = false := fun j => by rw [← Hw3.out]; exact ((below_new (w.alloc _) _).frozen (p := ⟨w.heap.size, j, none⟩) (by simp)).trans (At.frozen_new w #[.int .i64 a0, .int .i64 a1, .int .i64 li, .int .i64 cr, .int .i64 m0, .int .i64 m1, .int .i64 w0, .int .i64 w1, .int .i64 r0, .int .i64 r1] _ w.heap.size rfl j)
  have hck := hide (ref06_check a0 a1 li cr m0 m1 w0 w1 r0 r1 w3)
  cases h0 : soOk ⟨⟨a0, a1⟩, li, cr, ⟨m0, m1⟩, ⟨w0, w1⟩, ⟨r0, r1⟩⟩
  · have hce : soCheck ⟨⟨a0, a1⟩, li, cr, ⟨m0, m1⟩, ⟨w0, w1⟩, ⟨r0, r1⟩⟩ = 60 := by simp [soCheck, h0]
    have hae : afterE ⟨⟨a0, a1⟩, li, cr, ⟨m0, m1⟩, ⟨w0, w1⟩, ⟨r0, r1⟩⟩ ⟨lo, hi⟩ c = 60 ∧ afterV ⟨⟨a0, a1⟩, li, cr, ⟨m0, m1⟩, ⟨w0, w1⟩, ⟨r0, r1⟩⟩ ⟨lo, hi⟩ c = [] := by simp [afterE, afterV, afterOk, h0]
    have Hae := hide hae; have Hce := hide hce
    clear hae hce h0
    go_enter Try.func15, Try.ntmps15
    go_wp2_with fail
    rw [Hw3.out]
    refine hck.out.mono ?_
    rintro e w' ⟨rfl, hb⟩
    rw [Hce.out]
    go_wp2
    go_ret2
    rw [Hae.out.1, Hae.out.2]
    exact ⟨_, rfl, Own.nil _ _ _ _ _, hB.trans (hb.mono hB.size)⟩
  · have hce : soCheck ⟨⟨a0, a1⟩, li, cr, ⟨m0, m1⟩, ⟨w0, w1⟩, ⟨r0, r1⟩⟩ = 0 := by simp [soCheck, h0]
    have hfit := So.fit_of h0
    have H0 := hide h0; have Hce := hide hce; have Hfit := hide hfit; clear h0 hce hfit
    cases h1 : Sp.ok 0 1000000000 ⟨lo, hi⟩
    · have hae : afterE ⟨⟨a0, a1⟩, li, cr, ⟨m0, m1⟩, ⟨w0, w1⟩, ⟨r0, r1⟩⟩ ⟨lo, hi⟩ c = 2 ∧ afterV ⟨⟨a0, a1⟩, li, cr, ⟨m0, m1⟩, ⟨w0, w1⟩, ⟨r0, r1⟩⟩ ⟨lo, hi⟩ c = [] := by simp [afterE, afterV, afterOk, H0.out, h1]
      have Hae := hide hae; have H1 := hide h1
      clear hae h1
      go_enter Try.func15, Try.ntmps15
      go_wp2_with fail
      rw [Hw3.out]
      refine hck.out.mono ?_
      rintro e w4 ⟨rfl, hb⟩
      rw [Hce.out]
      obtain ⟨z0, z1⟩ := (hw.below hb).c2
      go_wp2_with (go_at_call 36; refine (spanned_any _ _ _ _ _).mono ?_; rintro e w5 ⟨rfl, hb5⟩; rw [H1.out])
      go_ret2
      rw [Hae.out.1, Hae.out.2]
      exact ⟨_, rfl, Own.nil _ _ _ _ _, hB.trans ((hb.mono hB.size).trans (hb5.mono (by have := hb.size; have := hB.size; omega)))⟩
    · cases h2 : inB 0 100 c
      · have hae : afterE ⟨⟨a0, a1⟩, li, cr, ⟨m0, m1⟩, ⟨w0, w1⟩, ⟨r0, r1⟩⟩ ⟨lo, hi⟩ c = 2 ∧ afterV ⟨⟨a0, a1⟩, li, cr, ⟨m0, m1⟩, ⟨w0, w1⟩, ⟨r0, r1⟩⟩ ⟨lo, hi⟩ c = [] := by simp [afterE, afterV, afterOk, H0.out, h1, h2]
        have Hae := hide hae; have H1 := hide h1; have H2 := hide h2
        clear hae h1 h2
        go_enter Try.func15, Try.ntmps15
        go_wp2_with fail
        rw [Hw3.out]
        refine hck.out.mono ?_
        rintro e w4 ⟨rfl, hb⟩
        rw [Hce.out]
        obtain ⟨z0, z1⟩ := (hw.below hb).c2
        go_wp2_with (first | (go_at_call 36; refine (spanned_any _ _ _ _ _).mono ?_; rintro e w5 ⟨rfl, hb5⟩; rw [H1.out]) | (go_at_call 52; refine (aflajref06_within _ _ _ _).mono ?_; rintro e w6 ⟨rfl, rfl⟩; rw [H2.out]))
        go_ret2
        rw [Hae.out.1, Hae.out.2]
        exact ⟨_, rfl, Own.nil _ _ _ _ _, hB.trans ((hb.mono hB.size).trans (hb5.mono (by have := hb.size; have := hB.size; omega)))⟩
      · have hc01 : 0 ≤ c ∧ c ≤ 100 := by simpa [inB] using h2
        have hlh : 0 ≤ lo ∧ lo ≤ hi ∧ hi ≤ 1000000000 := by simp [Sp.ok] at h1; omega
        obtain ⟨n, rfl⟩ : ∃ n : Nat, c = n := ⟨c.toNat, by omega⟩
        have hn : n ≤ 100 := by omega
        have hae : afterE ⟨⟨a0, a1⟩, li, cr, ⟨m0, m1⟩, ⟨w0, w1⟩, ⟨r0, r1⟩⟩ ⟨lo, hi⟩ n = 0 ∧ afterV ⟨⟨a0, a1⟩, li, cr, ⟨m0, m1⟩, ⟨w0, w1⟩, ⟨r0, r1⟩⟩ ⟨lo, hi⟩ n = afterL ⟨⟨a0, a1⟩, li, cr, ⟨m0, m1⟩, ⟨w0, w1⟩, ⟨r0, r1⟩⟩ ⟨lo, hi⟩ n := by simp [afterE, afterV, afterOk, H0.out, h1, h2]
        have Hae := hide hae; have H1 := hide h1; have H2 := hide h2
        clear hae h1 h2
        go_enter Try.func15, Try.ntmps15
        go_wp2_with fail
        rw [Hw3.out]
        refine hck.out.mono ?_
        rintro e w4 ⟨rfl, hb⟩
        rw [Hce.out]
        obtain ⟨z0, z1⟩ := (hw.below hb).c2
        go_wp2_with (first | (go_at_call 36; refine (spanned_any _ _ _ _ _).mono ?_; rintro e w5 ⟨rfl, hb5⟩; rw [H1.out]) | (go_at_call 52; refine (aflajref06_within _ _ _ _).mono ?_; rintro e w6 ⟨rfl, rfl⟩; rw [H2.out]))
        have hb35 : Below w3.heap.size w3 w5 := hb.trans (hb5.mono hb.size)
        have hs5 := hs.below hb35
        have hw5 := hw.below hb35
        have hf5 : ∀ j : Nat, w5.frozen? ⟨w.heap.size, j, none⟩ = false := fun j => (hb35.frozen (p := ⟨w.heap.size, j, none⟩) (by simp; omega)).trans (hfz j)
        have hB5 : Below w.heap.size w w5 := hB.trans (hb35.mono hB.size)
        have Hi0 := hide (And.intro hs5 (And.intro hw5 (And.intro hf5 hB5)))
        have hz5 : w.heap.size + 2 ≤ w5.heap.size := by have := hb35.size; omega
        clear hs hw hfz hck hs5 hw5 hf5 z0 z1 hb hb5 hb35 hB5
        go_loopw [8, 9] (fun v i wr => ∃ (k : Nat), k ≤ n ∧ i = .int .i64 k ∧ Hid (Below w.heap.size w wr) ∧ Hid (At wr w.heap.size (So.set ⟨⟨a0, a1⟩, li, cr, ⟨m0, m1⟩, ⟨w0, w1⟩, ⟨r0, r1⟩⟩ (saltN ⟨⟨a0, a1⟩, li, cr, ⟨m0, m1⟩, ⟨w0, w1⟩, ⟨r0, r1⟩⟩ ⟨lo, hi⟩ k)).cells) ∧ Hid (At wr (w.heap.size + 1) [.int .i64 lo, .int .i64 hi]) ∧ Hid (∀ j : Nat, wr.frozen? ⟨w.heap.size, j, none⟩ = false) ∧ w.heap.size + 2 ≤ wr.heap.size ∧ Own wr (w.heap.size + 2) 23 2 Sp.cells v (afterL ⟨⟨a0, a1⟩, li, cr, ⟨m0, m1⟩, ⟨w0, w1⟩, ⟨r0, r1⟩⟩ ⟨lo, hi⟩ k)) (fun _ i _ => n - (intOf i).toNat)
        case atStart => exact ⟨0, by omega, rfl, hide Hi0.out.2.2.2, hide Hi0.out.1, hide Hi0.out.2.1, hide Hi0.out.2.2.1, hz5, Own.nil _ _ _ _ _⟩
        case round =>
          obtain ⟨k, hk, rfl, hbl, hs, hw, hz, hsz, hown⟩ := hrel
          have Hown := hide hown; clear hown Hi0 hz5
          by_cases hlt : k < n
          · obtain ⟨x, y, hxy⟩ : ∃ x y, saltN ⟨⟨a0, a1⟩, li, cr, ⟨m0, m1⟩, ⟨w0, w1⟩, ⟨r0, r1⟩⟩ ⟨lo, hi⟩ k = ⟨x, y⟩ := ⟨_, _, rfl⟩
            have hfit := saltN_fit (w := ⟨lo, hi⟩) Hfit.out hlh.1 hlh.2.1 hlh.2.2 (k := k) (by omega)
            rw [hxy] at hfit
            have hat : At wr w.heap.size [.int .i64 x, .int .i64 y, .int .i64 li, .int .i64 cr, .int .i64 m0, .int .i64 m1, .int .i64 w0, .int .i64 w1, .int .i64 r0, .int .i64 r1] := by
              have h1 := hs.out
              rw [hxy] at h1
              exact h1
            obtain ⟨q0, q1, q2, q3, q4, q5, q6, q7, q8, q9⟩ := hat.c10
            obtain ⟨z0, z1⟩ := hw.out.c2
            have haf := rcycle_any x y li cr m0 m1 w0 w1 r0 r1 lo hi wr hfit hlh.1 hlh.2.1 hlh.2.2
            have hnx : saltN ⟨⟨a0, a1⟩, li, cr, ⟨m0, m1⟩, ⟨w0, w1⟩, ⟨r0, r1⟩⟩ ⟨lo, hi⟩ (k + 1) = cycleF (So.set ⟨⟨a0, a1⟩, li, cr, ⟨m0, m1⟩, ⟨w0, w1⟩, ⟨r0, r1⟩⟩ ⟨x, y⟩) ⟨lo, hi⟩ := by rw [← hxy]; rfl
            obtain ⟨x', y', hxy'⟩ : ∃ x' y', cycleF (So.set ⟨⟨a0, a1⟩, li, cr, ⟨m0, m1⟩, ⟨w0, w1⟩, ⟨r0, r1⟩⟩ ⟨x, y⟩) ⟨lo, hi⟩ = ⟨x', y'⟩ := ⟨_, _, rfl⟩
            have h2 : cycleF ⟨⟨x, y⟩, li, cr, ⟨m0, m1⟩, ⟨w0, w1⟩, ⟨r0, r1⟩⟩ ⟨lo, hi⟩ = ⟨x', y'⟩ := hxy'
            rw [h2] at haf
            rw [hxy'] at hnx
            have Haf := hide haf; have Hnx := hide hnx
            clear hnx hxy hxy' h2 haf hfit
            go_wp2_with fail
            refine Haf.out.mono ?_
            rintro e w' ⟨rfl, hb⟩
            have hat2 := hide (((hat.below hb).set (j := 0) (.int .i64 x') (by simp)).set (j := 1) (.int .i64 y') (by simp))
            obtain ⟨p0, p1⟩ := two_set w' w.heap.size (.int .i64 x') (.int .i64 y') (hat.below hb).c10.1 (hat.below hb).c10.2.1
            obtain ⟨c0, c1, _⟩ := (hat.below hb).c10
            have f0 : w'.frozen? ⟨w.heap.size, 0, none⟩ = false := (hb.frozen (p := ⟨w.heap.size, 0, none⟩) hat.1).trans (hz.out 0)
            have f1 : w'.frozen? ⟨w.heap.size, 1, none⟩ = false := (hb.frozen (p := ⟨w.heap.size, 1, none⟩) hat.1).trans (hz.out 1)
            obtain ⟨ws, Hws⟩ : ∃ ws, Hid ((w'.setCell ⟨w.heap.size, 0, none⟩ (.int .i64 x')).setCell ⟨w.heap.size, 1, none⟩ (.int .i64 y') = ws) := ⟨_, hide rfl⟩
            have kk : Kept (fun b => ¬ b = w.heap.size) wr ws := by
              rw [← Hws.out]
              exact ((Kept.all _ hb).trans ((Kept.setCell w' ⟨w.heap.size, 0, none⟩ (.int .i64 x')).mono fun b _ h => h)).trans ((Kept.setCell _ ⟨w.heap.size, 1, none⟩ (.int .i64 y')).mono fun b _ h => h)
            have hos := hide (Hown.out.keptR kk (fun b hb => by omega))
            have hfs : Hid (∀ j : Nat, ws.frozen? ⟨w.heap.size, j, none⟩ = false) := hide fun j => by
              rw [← Hws.out, World.frozen?_setCell, World.frozen?_setCell]
              exact (hb.frozen (p := ⟨w.heap.size, j, none⟩) hat.1).trans (hz.out j)
            have hws := hide (hw.out.kept kk (by omega))
            have hbs := hide (hbl.out.trans (kk.below (fun b hb => by omega) hbl.out.size))
            have hszs : w.heap.size + 2 ≤ ws.heap.size := Nat.le_trans hsz kk.size
            have hr := hide (Rd.new (cells := Sp.cells) ws #[.int .i64 x', .int .i64 y'] 23 [⟨x', y'⟩] rfl)
            have hszw : ws.heap.size = w'.heap.size := by rw [← Hws.out]; simp [World.setCell]
            rw [hszw] at hr
            rw [Hws.out] at hat2
            simp only [List.set_cons_zero, List.set_cons_succ] at hat2
            have Kk := hide kk
            clear kk
            go_wp2_with (at_builtin; rw [Hws.out]; refine appl_Sp rfl _ (.tmp 30) (.tmp 33) rfl (w.heap.size + 2) u8 (afterL ⟨⟨a0, a1⟩, li, cr, ⟨m0, m1⟩, ⟨w0, w1⟩, ⟨r0, r1⟩⟩ ⟨lo, hi⟩ k) rfl (hos.out.alloc _) _ _ 1 1 [⟨x', y'⟩] rfl rfl hr.out (by rw [afterL_len]; simp; omega) (by simp; omega) ?_; intro vv wv hown1 hg1)
            have kv : Kept (fun b => b < w.heap.size + 2) ws wv := kept_app hos.out hg1
            refine ⟨⟨k + 1, by omega, by go_num, hide (hbs.out.trans (kv.below (fun b hb => by omega) hbs.out.size)), hide ?_, hide (hws.out.kept kv (by omega)), hide (fun j => (kv.frozen (p := ⟨w.heap.size, j, none⟩) (by show w.heap.size < _; omega) hat2.out.1).trans (hfs.out j)), Nat.le_trans hszs kv.size, ?_⟩, by simp [intOf]; omega⟩
            · rw [Hnx.out]
              exact hat2.out.kept kv (by omega)
            · rw [afterL_succ, Hnx.out]
              exact hown1
          · obtain rfl : k = n := by omega
            go_wp2_with fail
            go_ret2
            rw [Hae.out.1, Hae.out.2]
            exact ⟨_, rfl, Hown.out.mono (by omega), hbl.out⟩
end Go.Proofs.Ytmbhnjpaieimbaa
namespace Go.Proofs.Ytmbhnjpaieimbaa
open Go.RowKit Go.Shelf

theorem keepF {p q : Nat} {w W W' : World} {a0 a1 li cr m0 m1 w0 w1 r0 r1 : Int} (hb : Below W.heap.size W W') (h : W.cell? ⟨p, 0, none⟩ = some (.int .i64 a0) ∧ W.cell? ⟨p, 1, none⟩ = some (.int .i64 a1) ∧ W.cell? ⟨p, 2, none⟩ = some (.int .i64 li) ∧ W.cell? ⟨p, 3, none⟩ = some (.int .i64 cr) ∧ W.cell? ⟨p, 4, none⟩ = some (.int .i64 m0) ∧ W.cell? ⟨p, 5, none⟩ = some (.int .i64 m1) ∧ W.cell? ⟨p, 6, none⟩ = some (.int .i64 w0) ∧ W.cell? ⟨p, 7, none⟩ = some (.int .i64 w1) ∧ W.cell? ⟨p, 8, none⟩ = some (.int .i64 r0) ∧ W.cell? ⟨p, 9, none⟩ = some (.int .i64 r1) ∧ W.cell? ⟨q, 2, none⟩ = some (.int .i64 li) ∧ p < W.heap.size ∧ q < W.heap.size ∧ Below w.heap.size w W) : W'.cell? ⟨p, 0, none⟩ = some (.int .i64 a0) ∧ W'.cell? ⟨p, 1, none⟩ = some (.int .i64 a1) ∧ W'.cell? ⟨p, 2, none⟩ = some (.int .i64 li) ∧ W'.cell? ⟨p, 3, none⟩ = some (.int .i64 cr) ∧ W'.cell? ⟨p, 4, none⟩ = some (.int .i64 m0) ∧ W'.cell? ⟨p, 5, none⟩ = some (.int .i64 m1) ∧ W'.cell? ⟨p, 6, none⟩ = some (.int .i64 w0) ∧ W'.cell? ⟨p, 7, none⟩ = some (.int .i64 w1) ∧ W'.cell? ⟨p, 8, none⟩ = some (.int .i64 r0) ∧ W'.cell? ⟨p, 9, none⟩ = some (.int .i64 r1) ∧ W'.cell? ⟨q, 2, none⟩ = some (.int .i64 li) ∧ p < W'.heap.size ∧ q < W'.heap.size ∧ Below w.heap.size w W' := by
  obtain ⟨h0, h1, h2, h3, h4, h5, h6, h7, h8, h9, h10, hp, hq, hB⟩ := h
  exact ⟨(hb.cell (by simp only []; omega)).trans h0, (hb.cell (by simp only []; omega)).trans h1, (hb.cell (by simp only []; omega)).trans h2, (hb.cell (by simp only []; omega)).trans h3, (hb.cell (by simp only []; omega)).trans h4, (hb.cell (by simp only []; omega)).trans h5, (hb.cell (by simp only []; omega)).trans h6, (hb.cell (by simp only []; omega)).trans h7, (hb.cell (by simp only []; omega)).trans h8, (hb.cell (by simp only []; omega)).trans h9, (hb.cell (by simp only []; omega)).trans h10, Nat.lt_of_lt_of_le hp hb.size, Nat.lt_of_lt_of_le hq hb.size, hB.trans (hb.mono hB.size)⟩
theorem lastF {p q : Nat} {w W : World} {a0 a1 li cr m0 m1 w0 w1 r0 r1 : Int} (h : W.cell? ⟨p, 0, none⟩ = some (.int .i64 a0) ∧ W.cell? ⟨p, 1, none⟩ = some (.int .i64 a1) ∧ W.cell? ⟨p, 2, none⟩ = some (.int .i64 li) ∧ W.cell? ⟨p, 3, none⟩ = some (.int .i64 cr) ∧ W.cell? ⟨p, 4, none⟩ = some (.int .i64 m0) ∧ W.cell? ⟨p, 5, none⟩ = some (.int .i64 m1) ∧ W.cell? ⟨p, 6, none⟩ = some (.int .i64 w0) ∧ W.cell? ⟨p, 7, none⟩ = some (.int .i64 w1) ∧ W.cell? ⟨p, 8, none⟩ = some (.int .i64 r0) ∧ W.cell? ⟨p, 9, none⟩ = some (.int .i64 r1) ∧ W.cell? ⟨q, 2, none⟩ = some (.int .i64 li) ∧ p < W.heap.size ∧ q < W.heap.size ∧ Below w.heap.size w W) : Below w.heap.size w W := by
  obtain ⟨h0, h1, h2, h3, h4, h5, h6, h7, h8, h9, h10, hp, hq, hB⟩ := h
  exact hB
def fineF (s : So) (v : Int) : Bool := decide (saltedF true s v ≤ 1000 * s.limit)

set_option maxHeartbeats 8000000 in
set_option maxRecDepth 100000 in
theorem fine_any (a0 a1 li cr m0 m1 w0 w1 r0 r1 v : Int) (p q : Nat) (w : World) (hp : At w p [.int .i64 a0, .int .i64 a1, .int .i64 li, .int .i64 cr, .int .i64 m0, .int .i64 m1, .int .i64 w0, .int .i64 w1, .int .i64 r0, .int .i64 r1]) (hq : w.cell? ⟨q, 2, none⟩ = some (.int .i64 li)) (hql : q < w.heap.size) (hf : So.fit 100000000 ⟨⟨a0, a1⟩, li, cr, ⟨m0, m1⟩, ⟨w0, w1⟩, ⟨r0, r1⟩⟩) (hli : 0 ≤ li ∧ li ≤ 100000000) (h0 : 0 ≤ v) (h1 : v ≤ 1000000000) :
    Calls Try.prog 54 #[.int .i64 v, .pointer (some ⟨p, 0, none⟩), .pointer (some ⟨q, 0, none⟩)] w fun e w' => e = .returned (.bool (fineF ⟨⟨a0, a1⟩, li, cr, ⟨m0, m1⟩, ⟨w0, w1⟩, ⟨r0, r1⟩⟩ v)) ∧ Below w.heap.size w w' := by
  have HcB := hide (show w.drew.cell? ⟨p, 0, none⟩ = some (.int .i64 a0) ∧ w.drew.cell? ⟨p, 1, none⟩ = some (.int .i64 a1) ∧ w.drew.cell? ⟨p, 2, none⟩ = some (.int .i64 li) ∧ w.drew.cell? ⟨p, 3, none⟩ = some (.int .i64 cr) ∧ w.drew.cell? ⟨p, 4, none⟩ = some (.int .i64 m0) ∧ w.drew.cell? ⟨p, 5, none⟩ = some (.int .i64 m1) ∧ w.drew.cell? ⟨p, 6, none⟩ = some (.int .i64 w0) ∧ w.drew.cell? ⟨p, 7, none⟩ = some (.int .i64 w1) ∧ w.drew.cell? ⟨p, 8, none⟩ = some (.int .i64 r0) ∧ w.drew.cell? ⟨p, 9, none⟩ = some (.int .i64 r1) ∧ w.drew.cell? ⟨q, 2, none⟩ = some (.int .i64 li) ∧ p < w.drew.heap.size ∧ q < w.drew.heap.size ∧ Below w.heap.size w w.drew from by
    obtain ⟨q0, q1, q2, q3, q4, q5, q6, q7, q8, q9⟩ := hp.c10
    exact ⟨q0, q1, q2, q3, q4, q5, q6, q7, q8, q9, hq, hp.1, hql, (Below.refl _ _).drew⟩)
  have Hf := hide (hf.mono (B' := 100000000000000) (by omega))
  clear hp hq hql hf
  obtain ⟨z, hz⟩ : ∃ z, z = saltedF true ⟨⟨a0, a1⟩, li, cr, ⟨m0, m1⟩, ⟨w0, w1⟩, ⟨r0, r1⟩⟩ v := ⟨_, rfl⟩
  have hfin : fineF ⟨⟨a0, a1⟩, li, cr, ⟨m0, m1⟩, ⟨w0, w1⟩, ⟨r0, r1⟩⟩ v = decide (z ≤ 1000 * li) := by rw [hz]; rfl
  rw [hfin]
  have Hz := hide hz; clear hz hfin
  go_enter Try.func54, Try.ntmps54
  go_wp2_with fail
  go_region_held3 (fun W => W.cell? ⟨p, 0, none⟩ = some (.int .i64 a0) ∧ W.cell? ⟨p, 1, none⟩ = some (.int .i64 a1) ∧ W.cell? ⟨p, 2, none⟩ = some (.int .i64 li) ∧ W.cell? ⟨p, 3, none⟩ = some (.int .i64 cr) ∧ W.cell? ⟨p, 4, none⟩ = some (.int .i64 m0) ∧ W.cell? ⟨p, 5, none⟩ = some (.int .i64 m1) ∧ W.cell? ⟨p, 6, none⟩ = some (.int .i64 w0) ∧ W.cell? ⟨p, 7, none⟩ = some (.int .i64 w1) ∧ W.cell? ⟨p, 8, none⟩ = some (.int .i64 r0) ∧ W.cell? ⟨p, 9, none⟩ = some (.int .i64 r1) ∧ W.cell? ⟨q, 2, none⟩ = some (.int .i64 li) ∧ p < W.heap.size ∧ q < W.heap.size ∧ Below w.heap.size w W) (first | assumption | exact HcB.out | (refine keepF hb ?_; assumption)) (first | (go_at_call 56; refine (high_any _).mono ?_; rintro e w' ⟨rfl, hb⟩) | (go_at_call 57; refine (low_any _).mono ?_; rintro e w' ⟨rfl, hb⟩) | (go_at_call 55; refine (salted_high a0 a1 li cr m0 m1 w0 w1 r0 r1 v _ Hf.out h0 h1).mono ?_; rintro e w' ⟨rfl, hb⟩; rw [← Hz.out]))
  all_goals
    go_wp2_with fail
    go_ret
    exact ⟨ret_bool (by rw [show IntKind.i64.wrap (1000 * li) = 1000 * li by rw [IntKind.wrap_i64]; omega]), lastF (by assumption)⟩
theorem enters_fine : ∀ args w, (callFunc 54 args).run Try.prog w = .ok (.enter 54 args) w := enters_of Try.func54 (by kernel_rfl) rfl

set_option maxHeartbeats 1000000 in
/-- least: by halves. -/
theorem least_fn (f : FuncId) (cp : Array Value) (so : Int → Bool) (lo hi : Int) (w : World) (eg : ∀ args w, (callFunc f args).run Try.prog w = .ok (.enter f args) w) (hlo : 0 ≤ lo) (hle : lo ≤ hi + 1) (hhi : hi ≤ 1000000000000)
    (hf : ∀ x w', lo ≤ x → x ≤ hi → Below w.heap.size w w' → Calls Try.prog f (#[.int .i64 x] ++ cp) w' fun e w'' => e = .returned (.bool (so x)) ∧ Below w'.heap.size w' w'')
    (hmono : ∀ x y, lo ≤ x → x ≤ y → y ≤ hi → so x = true → so y = true) :
    Calls Try.prog 58 #[.int .i64 lo, .int .i64 hi, .func (.func f) #[] cp] w fun e w' => ∃ r : Int, e = .returned (.int .i64 r) ∧ lo ≤ r ∧ r ≤ hi + 1 ∧ (∀ x, lo ≤ x → x < r → so x = false) ∧ (r ≤ hi → so r = true) ∧ Below w.heap.size w w' := by
  have Hf := hide hf; have Hm := hide hmono; clear hf hmono
  go_enter Try.func58, Try.ntmps58
  go_wp2_with fail
  go_loopw [0, 1] (fun a b wr => ∃ l h : Int, a = .int .i64 l ∧ b = .int .i64 h ∧ lo ≤ l ∧ l ≤ h ∧ h ≤ hi + 1 ∧ Hid (∀ x, lo ≤ x → x < l → so x = false) ∧ Hid (h ≤ hi → so h = true) ∧ Below w.heap.size w wr) (fun a b _ => (intOf b - intOf a).toNat)
  case atStart => exact ⟨lo, hi + 1, rfl, by go_num, by omega, by omega, by omega, hide (fun x h1 h2 => by omega), hide (fun h => by omega), Below.refl _ _⟩
  case round =>
    obtain ⟨l, h, rfl, rfl, h1, h2, h3, ha, hb, hB⟩ := hrel
    by_cases hlt : l < h
    · obtain ⟨m, hm⟩ : ∃ m, m = l + (h - l) / 2 := ⟨_, rfl⟩
      have hm1 : l ≤ m ∧ m < h := by omega
      have hm2 : lo ≤ l + (h - l) / 2 ∧ l + (h - l) / 2 ≤ hi := by omega
      have H := hide (Hf.out (l + (h - l) / 2) wr hm2.1 hm2.2 hB)
      cases hs : so (l + (h - l) / 2)
      all_goals
        have Hs := hide hs
        rw [hs] at H
        clear hs
        go_wp2_with (go_at_fn f; refine H.out.mono ?_; rintro e w' ⟨rfl, hb'⟩)
      · refine ⟨⟨_, h, rfl, rfl, by go_num, by go_num, h3, hide (fun x h4 h5 => ?_), hb, hB.trans (hb'.mono hB.size)⟩, by simp [intOf]; omega⟩
        rcases Bool.eq_false_or_eq_true (so x) with e | e
        · have := Hm.out x (l + (h - l) / 2) h4 (by omega) hm2.2 e
          rw [Hs.out] at this
          cases this
        · exact e
      · exact ⟨⟨l, _, rfl, rfl, h1, by omega, by omega, ha, hide (fun _ => Hs.out), hB.trans (hb'.mono hB.size)⟩, by simp [intOf]; omega⟩
    · obtain rfl : l = h := by omega
      go_wp2
      go_ret
      exact ⟨l, rfl, h1, h3, ha.out, hb.out, hB⟩

theorem enters_need2 : ∀ args w, (callFunc 59 args).run Try.prog w = .ok (.enter 59 args) w := enters_of Try.func59 (by kernel_rfl) rfl
def soF (s : So) (x : Int) : Bool := decide (s.mineral.hi < s.wash.lo) && fineF s x
set_option maxHeartbeats 2000000 in
theorem need2_any (a0 a1 li cr m0 m1 w0 w1 r0 r1 v : Int) (p q r : Nat) (w : World) (hp : At w p [.int .i64 a0, .int .i64 a1, .int .i64 li, .int .i64 cr, .int .i64 m0, .int .i64 m1, .int .i64 w0, .int .i64 w1, .int .i64 r0, .int .i64 r1]) (hq : At w q [.int .i64 a0, .int .i64 a1, .int .i64 li, .int .i64 cr, .int .i64 m0, .int .i64 m1, .int .i64 w0, .int .i64 w1, .int .i64 r0, .int .i64 r1]) (hr : At w r [.func (.func 54) #[] #[.pointer (some ⟨p, 0, none⟩), .pointer (some ⟨q, 0, none⟩)]]) (hf : So.fit 100000000 ⟨⟨a0, a1⟩, li, cr, ⟨m0, m1⟩, ⟨w0, w1⟩, ⟨r0, r1⟩⟩) (hli : 0 ≤ li ∧ li ≤ 100000000) (h0 : 0 ≤ v) (h1 : v ≤ 1000000000) :
    Calls Try.prog 59 #[.int .i64 v, .pointer (some ⟨q, 0, none⟩), .pointer (some ⟨r, 0, none⟩)] w fun e w' => e = .returned (.bool (soF ⟨⟨a0, a1⟩, li, cr, ⟨m0, m1⟩, ⟨w0, w1⟩, ⟨r0, r1⟩⟩ v)) ∧ Below w.heap.size w w' := by
  have H := hide (fine_any a0 a1 li cr m0 m1 w0 w1 r0 r1 v p q w hp hq.c10.2.2.1 hq.1 hf hli h0 h1)
  obtain ⟨q0, q1, q2, q3, q4, q5, q6, q7, q8, q9⟩ := hq.c10
  have z0 := hr.c1
  clear hp hq hr hf
  obtain ⟨fi, hfi⟩ : ∃ fi, fi = fineF ⟨⟨a0, a1⟩, li, cr, ⟨m0, m1⟩, ⟨w0, w1⟩, ⟨r0, r1⟩⟩ v := ⟨_, rfl⟩
  have hso : soF ⟨⟨a0, a1⟩, li, cr, ⟨m0, m1⟩, ⟨w0, w1⟩, ⟨r0, r1⟩⟩ v = (decide (m1 < w0) && fi) := by rw [hfi]; rfl
  rw [hso]
  rw [← hfi] at H
  clear hso hfi
  by_cases hmw : m1 < w0
  all_goals
    go_enter Try.func59, Try.ntmps59
    go_wp2_with (go_at_call 54; refine H.out.mono ?_; rintro e w' ⟨rfl, hb⟩)
    go_ret
    first | exact ⟨ret_bool (by simp [hmw]), hb⟩ | exact ⟨ret_bool (by simp; intro h; omega), Below.refl _ _⟩

/-- What a soil needs, by the specification. -/
def needR (s : So) : Int × Int :=
  if fineF s s.crop then (s.crop, 0) else if s.wash.lo ≤ s.mineral.hi then (0, 6) else
    let n := s.crop + (saltedF true s s.crop - 1000 * s.limit + (s.wash.lo - s.mineral.hi) - 1) / (s.wash.lo - s.mineral.hi)
    if n ≤ 1000000000 then (n, 0) else (0, 6)
def needF (s : So) : Int × Int := if soOk s then needR s else (0, 60)
theorem salted_past {s : So} {x : Int} (h : s.crop ≤ x) : saltedF true s x = saltedF true s s.crop - (x - s.crop) * (s.wash.lo - s.mineral.hi) := by
  have e1 : max 0 (x - s.crop) = x - s.crop := by omega
  have e2 : max 0 (s.crop - s.crop) = 0 := by omega
  simp only [saltedF, Sp.at, Bool.not_true, Bool.false_eq_true, if_false, if_true, e1, e2, Int.zero_mul, Int.sub_mul, Int.mul_sub]
  omega
theorem fine_iff {s : So} {x : Int} (h : s.crop ≤ x) (hm : s.mineral.hi < s.wash.lo) (hn : fineF s s.crop = false) :
    fineF s x = true ↔ s.crop + (saltedF true s s.crop - 1000 * s.limit + (s.wash.lo - s.mineral.hi) - 1) / (s.wash.lo - s.mineral.hi) ≤ x := by
  have hp : 0 < s.wash.lo - s.mineral.hi := by omega
  have e := salted_past h
  simp only [fineF, decide_eq_true_eq, e]
  generalize s.wash.lo - s.mineral.hi = m at *
  generalize saltedF true s s.crop = F at *
  have key : (F - 1000 * s.limit + m - 1) / m ≤ x - s.crop ↔ F - 1000 * s.limit ≤ (x - s.crop) * m := by
    rw [show (F - 1000 * s.limit + m - 1) / m ≤ x - s.crop ↔ (F - 1000 * s.limit + m - 1) / m < x - s.crop + 1 by omega, Int.ediv_lt_iff_lt_mul hp, Int.add_mul]
    omega
  generalize (x - s.crop) * m = P at *
  generalize (F - 1000 * s.limit + m - 1) / m = D at *
  omega
theorem soF_mono {s : So} (hn : fineF s s.crop = false) : ∀ x y : Int, s.crop ≤ x → x ≤ y → y ≤ 1000000000 → soF s x = true → soF s y = true := by
  intro x y h1 h2 _ h
  simp only [soF, Bool.and_eq_true, decide_eq_true_eq] at h ⊢
  have h3 := (fine_iff h1 h.1 hn).1 h.2
  exact ⟨h.1, (fine_iff (by omega) h.1 hn).2 (by omega)⟩
theorem need_of {s : So} {r : Int} (hn : fineF s s.crop = false) (h1 : s.crop ≤ r) (h2 : r ≤ 1000000000 + 1) (h3 : ∀ x, s.crop ≤ x → x < r → soF s x = false) (h4 : r ≤ 1000000000 → soF s r = true) :
    (if 1000000000 < r then ((0, 6) : Int × Int) else (r, 0)) = needR s := by
  unfold needR
  rw [hn]
  simp only [Bool.false_eq_true, if_false]
  by_cases hm : s.wash.lo ≤ s.mineral.hi
  · rw [if_pos hm]
    by_cases hr : 1000000000 < r
    · rw [if_pos hr]
    · have := h4 (by omega)
      simp [soF] at this
      omega
  · rw [if_neg hm]
    have hm' : s.mineral.hi < s.wash.lo := by omega
    have hi : ∀ x, s.crop ≤ x → (soF s x = true ↔ s.crop + (saltedF true s s.crop - 1000 * s.limit + (s.wash.lo - s.mineral.hi) - 1) / (s.wash.lo - s.mineral.hi) ≤ x) := fun x hx => by
      rw [← fine_iff hx hm' hn]
      simp [soF, hm']
    generalize hN : s.crop + (saltedF true s s.crop - 1000 * s.limit + (s.wash.lo - s.mineral.hi) - 1) / (s.wash.lo - s.mineral.hi) = N at *
    have hNc : s.crop ≤ N := by
      by_cases hc : N ≤ s.crop
      · have := (hi s.crop (by omega)).2 hc
        simp [soF, hn] at this
      · omega
    by_cases hr : 1000000000 < r
    · rw [if_pos hr, if_neg]
      intro hle
      have := h3 N hNc (by omega)
      rw [(hi N hNc).2 (Int.le_refl _)] at this
      cases this
    · have hle := (hi r h1).1 (h4 (by omega))
      have hre : r = N := by
        by_cases hlt : N < r
        · have := h3 N hNc hlt
          rw [(hi N hNc).2 (Int.le_refl _)] at this
          cases this
        · omega
      rw [if_neg hr, if_pos (by omega), hre]
end Go.Proofs.Ytmbhnjpaieimbaa
namespace Go.Proofs.Ytmbhnjpaieimbaa
open Go.RowKit Go.Shelf
theorem So.limit_of {s : So} (h : soOk s = true) : 0 ≤ s.limit ∧ s.limit ≤ 100000000 := by
  simp [soOk, Sp.ok, inB] at h
  omega
theorem enters_need1 : ∀ args w, (callFunc 54 args).run Try.prog w = .ok (.enter 54 args) w := enters_of Try.func54 (by kernel_rfl) rfl

set_option maxHeartbeats 8000000 in
set_option maxRecDepth 100000 in
theorem need_fn (a0 a1 li cr m0 m1 w0 w1 r0 r1 : Int) (w : World) :
    Calls Try.prog 16 #[.agg #[.int .i64 a0, .int .i64 a1, .int .i64 li, .int .i64 cr, .int .i64 m0, .int .i64 m1, .int .i64 w0, .int .i64 w1, .int .i64 r0, .int .i64 r1]] w fun e w' => e = .returned (.tuple #[.int .i64 (needF ⟨⟨a0, a1⟩, li, cr, ⟨m0, m1⟩, ⟨w0, w1⟩, ⟨r0, r1⟩⟩).1, .int .i64 (needF ⟨⟨a0, a1⟩, li, cr, ⟨m0, m1⟩, ⟨w0, w1⟩, ⟨r0, r1⟩⟩).2]) ∧ Below w.heap.size w w' := by
  obtain ⟨w3, Hw3⟩ : ∃ w3, Hid (w.alloc (.cells #[.int .i64 a0, .int .i64 a1, .int .i64 li, .int .i64 cr, .int .i64 m0, .int .i64 m1, .int .i64 w0, .int .i64 w1, .int .i64 r0, .int .i64 r1] 25) = w3) := ⟨_, hide rfl⟩
  have hB : Below w.heap.size w w3 := by rw [← Hw3.out]; exact below_new _ _
  have hs : At w3 w.heap.size [.int .i64 a0, .int .i64 a1, .int .i64 li, .int .i64 cr, .int .i64 m0, .int .i64 m1, .int .i64 w0, .int .i64 w1, .int .i64 r0, .int .i64 r1] := by rw [← Hw3.out]; exact At.new w #[.int .i64 a0, .int .i64 a1, .int .i64 li, .int .i64 cr, .int .i64 m0, .int .i64 m1, .int .i64 w0, .int .i64 w1, .int .i64 r0, .int .i64 r1] _ w.heap.size rfl _ rfl
  have hck := hide (salt_check a0 a1 li cr m0 m1 w0 w1 r0 r1 w3)
  cases h0 : soOk ⟨⟨a0, a1⟩, li, cr, ⟨m0, m1⟩, ⟨w0, w1⟩, ⟨r0, r1⟩⟩
  · have hce : soCheck ⟨⟨a0, a1⟩, li, cr, ⟨m0, m1⟩, ⟨w0, w1⟩, ⟨r0, r1⟩⟩ = 60 := by simp [soCheck, h0]
    have hae : needF ⟨⟨a0, a1⟩, li, cr, ⟨m0, m1⟩, ⟨w0, w1⟩, ⟨r0, r1⟩⟩ = (0, 60) := by simp [needF, h0]
    have Hce := hide hce
    rw [hae]
    clear hae hce h0
    go_enter Try.func16, Try.ntmps16
    go_wp2_with fail
    rw [Hw3.out]
    refine hck.out.mono ?_
    rintro e w' ⟨rfl, hb⟩
    rw [Hce.out]
    go_wp2
    go_ret2
    exact ⟨rfl, hB.trans (hb.mono hB.size)⟩
  · have hce : soCheck ⟨⟨a0, a1⟩, li, cr, ⟨m0, m1⟩, ⟨w0, w1⟩, ⟨r0, r1⟩⟩ = 0 := by simp [soCheck, h0]
    have hfit := So.fit_of h0
    have hlim := So.limit_of h0
    have hnf : needF ⟨⟨a0, a1⟩, li, cr, ⟨m0, m1⟩, ⟨w0, w1⟩, ⟨r0, r1⟩⟩ = needR ⟨⟨a0, a1⟩, li, cr, ⟨m0, m1⟩, ⟨w0, w1⟩, ⟨r0, r1⟩⟩ := by simp [needF, h0]
    rw [hnf]
    have hcr : 0 ≤ cr ∧ cr ≤ 1000000000 := hfit.cr
    have hli : 0 ≤ li ∧ li ≤ 100000000 := hlim
    have H0 := hide h0; have Hce := hide hce; have Hfit := hide hfit; clear h0 hce hfit hlim hnf
    cases hfc : fineF ⟨⟨a0, a1⟩, li, cr, ⟨m0, m1⟩, ⟨w0, w1⟩, ⟨r0, r1⟩⟩ cr
    all_goals
      have Hfc := hide hfc; clear hfc
      go_enter Try.func16, Try.ntmps16
      go_wp2_with fail
      rw [Hw3.out]
      refine hck.out.mono ?_
      rintro e w4 ⟨rfl, hb⟩
      rw [Hce.out]
      have hs4 := hs.below hb
      obtain ⟨q0, q1, q2, q3, q4, q5, q6, q7, q8, q9⟩ := hs4.c10
      obtain ⟨w5, Hw5⟩ : ∃ w5, Hid ((w4.alloc (.cells #[.int .i64 a0, .int .i64 a1, .int .i64 li, .int .i64 cr, .int .i64 m0, .int .i64 m1, .int .i64 w0, .int .i64 w1, .int .i64 r0, .int .i64 r1] 107)).alloc (.cells #[.func (.func 54) #[] #[.pointer (some ⟨w4.heap.size, 0, none⟩), .pointer (some ⟨w.heap.size, 0, none⟩)]] 76) = w5) := ⟨_, hide rfl⟩
      have hb45 : Below w4.heap.size w4 w5 := by rw [← Hw5.out]; exact (below_new _ _).alloc (by simp) _
      have hx5 : At w5 w4.heap.size [.int .i64 a0, .int .i64 a1, .int .i64 li, .int .i64 cr, .int .i64 m0, .int .i64 m1, .int .i64 w0, .int .i64 w1, .int .i64 r0, .int .i64 r1] := by rw [← Hw5.out]; exact (At.new w4 #[.int .i64 a0, .int .i64 a1, .int .i64 li, .int .i64 cr, .int .i64 m0, .int .i64 m1, .int .i64 w0, .int .i64 w1, .int .i64 r0, .int .i64 r1] _ _ rfl _ rfl).alloc _
      have hf5 : At w5 (w4.heap.size + 1) [.func (.func 54) #[] #[.pointer (some ⟨w4.heap.size, 0, none⟩), .pointer (some ⟨w.heap.size, 0, none⟩)]] := by rw [← Hw5.out]; exact At.new (w4.alloc _) #[.func (.func 54) #[] #[.pointer (some ⟨w4.heap.size, 0, none⟩), .pointer (some ⟨w.heap.size, 0, none⟩)]] _ _ (by simp) _ rfl
      have hs5 := hs4.below hb45
      have hBw5 : Below w.heap.size w w5 := hB.trans ((hb.mono hB.size).trans (hb45.mono (by have := hB.size; have := hb.size; omega)))
      have h55 : ((w4.alloc (.cells #[.int .i64 a0, .int .i64 a1, .int .i64 li, .int .i64 cr, .int .i64 m0, .int .i64 m1, .int .i64 w0, .int .i64 w1, .int .i64 r0, .int .i64 r1] 107)).alloc (.cells #[.func (.func 54) #[] #[.pointer (some ⟨w4.heap.size, 0, none⟩), .pointer (some ⟨w.heap.size, 0, none⟩)]] 76)).cell? ⟨w.heap.size, 3, none⟩ = some (.int .i64 cr) := by rw [Hw5.out]; exact hs5.c10.2.2.2.1
      go_wp2_with fail
      rw [Hw5.out]
      refine (fine_any a0 a1 li cr m0 m1 w0 w1 r0 r1 cr w4.heap.size w.heap.size w5 hx5 hs5.c10.2.2.1 hs5.1 Hfit.out hli hcr.1 hcr.2).mono ?_
      rintro e w6 ⟨rfl, hb6⟩
      rw [Hfc.out]
      have hs6 := hs5.below hb6
      have hx6 := hx5.below hb6
      have hf6 := hf5.below hb6
      have hBw6 := hBw5.trans (hb6.mono hBw5.size)
      obtain ⟨p0, p1, p2, p3, p4, p5, p6, p7, p8, p9⟩ := hs6.c10
    · have H := hide (least_fn 59 #[.pointer (some ⟨w.heap.size, 0, none⟩), .pointer (some ⟨w4.heap.size + 1, 0, none⟩)] (soF ⟨⟨a0, a1⟩, li, cr, ⟨m0, m1⟩, ⟨w0, w1⟩, ⟨r0, r1⟩⟩) cr 1000000000 w6 enters_need2 hcr.1 (by omega) (by omega)
        (fun x w' h1 h2 hbx => need2_any a0 a1 li cr m0 m1 w0 w1 r0 r1 x w4.heap.size w.heap.size (w4.heap.size + 1) w' (hx6.below hbx) (hs6.below hbx) (hf6.below hbx) Hfit.out hli (by omega) h2)
        (soF_mono Hfc.out))
      clear hx6 hf6 hs6 hx5 hf5 hs5
      go_wp2_with fail
      refine H.out.mono ?_
      rintro e w7 ⟨r, rfl, h1, h2, h3, h4, hb7⟩
      have hnd := need_of Hfc.out h1 h2 h3 h4
      have Hnd := hide hnd
      clear hnd h3 h4
      by_cases hr : 1000000000 < r
      · go_wp2
        go_ret2
        rw [← Hnd.out, if_pos hr]
        exact ⟨rfl, hBw6.trans (hb7.mono hBw6.size)⟩
      · go_wp2
        go_ret2
        rw [← Hnd.out, if_neg (by omega)]
        exact ⟨rfl, hBw6.trans (hb7.mono hBw6.size)⟩
    · have hnr : needR ⟨⟨a0, a1⟩, li, cr, ⟨m0, m1⟩, ⟨w0, w1⟩, ⟨r0, r1⟩⟩ = (cr, 0) := by unfold needR; rw [if_pos Hfc.out]
      have Hnr := hide hnr
      clear hnr
      go_wp2
      go_ret2
      rw [Hnr.out]
      exact ⟨rfl, hBw6⟩
end Go.Proofs.Ytmbhnjpaieimbaa
