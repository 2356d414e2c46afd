/- The reference of salt: Need, by contracts. -/
import Derived.Test.YtmbhnjpaieimbaaS11
set_option linter.unusedVariables false
set_option linter.unusedSimpArgs false
namespace Go.Proofs.Ytmbhnjpaieimbaa
open Go.RowKit Go.Shelf
theorem keepN {w W W' : World} {a0 a1 li cr m0 m1 w0 w1 r0 r1 : Int} (hb : Below W.heap.size W W') (h : W.cell? ⟨w.heap.size, 0, none⟩ = some (.int .i64 a0) ∧ W.cell? ⟨w.heap.size, 1, none⟩ = some (.int .i64 a1) ∧ W.cell? ⟨w.heap.size, 2, none⟩ = some (.int .i64 li) ∧ W.cell? ⟨w.heap.size, 3, none⟩ = some (.int .i64 cr) ∧ W.cell? ⟨w.heap.size, 4, none⟩ = some (.int .i64 m0) ∧ W.cell? ⟨w.heap.size, 5, none⟩ = some (.int .i64 m1) ∧ W.cell? ⟨w.heap.size, 6, none⟩ = some (.int .i64 w0) ∧ W.cell? ⟨w.heap.size, 7, none⟩ = some (.int .i64 w1) ∧ W.cell? ⟨w.heap.size, 8, none⟩ = some (.int .i64 r0) ∧ W.cell? ⟨w.heap.size, 9, none⟩ = some (.int .i64 r1) ∧ w.heap.size < W.heap.size ∧ Below w.heap.size w W) : W'.cell? ⟨w.heap.size, 0, none⟩ = some (.int .i64 a0) ∧ W'.cell? ⟨w.heap.size, 1, none⟩ = some (.int .i64 a1) ∧ W'.cell? ⟨w.heap.size, 2, none⟩ = some (.int .i64 li) ∧ W'.cell? ⟨w.heap.size, 3, none⟩ = some (.int .i64 cr) ∧ W'.cell? ⟨w.heap.size, 4, none⟩ = some (.int .i64 m0) ∧ W'.cell? ⟨w.heap.size, 5, none⟩ = some (.int .i64 m1) ∧ W'.cell? ⟨w.heap.size, 6, none⟩ = some (.int .i64 w0) ∧ W'.cell? ⟨w.heap.size, 7, none⟩ = some (.int .i64 w1) ∧ W'.cell? ⟨w.heap.size, 8, none⟩ = some (.int .i64 r0) ∧ W'.cell? ⟨w.heap.size, 9, none⟩ = some (.int .i64 r1) ∧ w.heap.size < W'.heap.size ∧ Below w.heap.size w W' := by
  obtain ⟨h0, h1, h2, h3, h4, h5, h6, h7, h8, h9, hp, hB⟩ := h
  exact ⟨(hb.cell (by simp only []; omega)).trans h0, (hb.cell (by simp only []; omega)).trans h1, (hb.cell (by simp only []; omega)).trans h2, (hb.cell (by simp only []; omega)).trans h3, (hb.cell (by simp only []; omega)).trans h4, (hb.cell (by simp only []; omega)).trans h5, (hb.cell (by simp only []; omega)).trans h6, (hb.cell (by simp only []; omega)).trans h7, (hb.cell (by simp only []; omega)).trans h8, (hb.cell (by simp only []; omega)).trans h9, Nat.lt_of_lt_of_le hp hb.size, hB.trans (hb.mono hB.size)⟩
theorem keepN_drew {w W : World} {a0 a1 li cr m0 m1 w0 w1 r0 r1 : Int} (h : W.cell? ⟨w.heap.size, 0, none⟩ = some (.int .i64 a0) ∧ W.cell? ⟨w.heap.size, 1, none⟩ = some (.int .i64 a1) ∧ W.cell? ⟨w.heap.size, 2, none⟩ = some (.int .i64 li) ∧ W.cell? ⟨w.heap.size, 3, none⟩ = some (.int .i64 cr) ∧ W.cell? ⟨w.heap.size, 4, none⟩ = some (.int .i64 m0) ∧ W.cell? ⟨w.heap.size, 5, none⟩ = some (.int .i64 m1) ∧ W.cell? ⟨w.heap.size, 6, none⟩ = some (.int .i64 w0) ∧ W.cell? ⟨w.heap.size, 7, none⟩ = some (.int .i64 w1) ∧ W.cell? ⟨w.heap.size, 8, none⟩ = some (.int .i64 r0) ∧ W.cell? ⟨w.heap.size, 9, none⟩ = some (.int .i64 r1) ∧ w.heap.size < W.heap.size ∧ Below w.heap.size w W) : W.drew.cell? ⟨w.heap.size, 0, none⟩ = some (.int .i64 a0) ∧ W.drew.cell? ⟨w.heap.size, 1, none⟩ = some (.int .i64 a1) ∧ W.drew.cell? ⟨w.heap.size, 2, none⟩ = some (.int .i64 li) ∧ W.drew.cell? ⟨w.heap.size, 3, none⟩ = some (.int .i64 cr) ∧ W.drew.cell? ⟨w.heap.size, 4, none⟩ = some (.int .i64 m0) ∧ W.drew.cell? ⟨w.heap.size, 5, none⟩ = some (.int .i64 m1) ∧ W.drew.cell? ⟨w.heap.size, 6, none⟩ = some (.int .i64 w0) ∧ W.drew.cell? ⟨w.heap.size, 7, none⟩ = some (.int .i64 w1) ∧ W.drew.cell? ⟨w.heap.size, 8, none⟩ = some (.int .i64 r0) ∧ W.drew.cell? ⟨w.heap.size, 9, none⟩ = some (.int .i64 r1) ∧ w.heap.size < W.drew.heap.size ∧ Below w.heap.size w W.drew := by
  obtain ⟨h0, h1, h2, h3, h4, h5, h6, h7, h8, h9, hp, hB⟩ := h
  exact ⟨h0, h1, h2, h3, h4, h5, h6, h7, h8, h9, hp, hB.drew⟩
theorem lastN {w W : World} {a0 a1 li cr m0 m1 w0 w1 r0 r1 : Int} (h : W.cell? ⟨w.heap.size, 0, none⟩ = some (.int .i64 a0) ∧ W.cell? ⟨w.heap.size, 1, none⟩ = some (.int .i64 a1) ∧ W.cell? ⟨w.heap.size, 2, none⟩ = some (.int .i64 li) ∧ W.cell? ⟨w.heap.size, 3, none⟩ = some (.int .i64 cr) ∧ W.cell? ⟨w.heap.size, 4, none⟩ = some (.int .i64 m0) ∧ W.cell? ⟨w.heap.size, 5, none⟩ = some (.int .i64 m1) ∧ W.cell? ⟨w.heap.size, 6, none⟩ = some (.int .i64 w0) ∧ W.cell? ⟨w.heap.size, 7, none⟩ = some (.int .i64 w1) ∧ W.cell? ⟨w.heap.size, 8, none⟩ = some (.int .i64 r0) ∧ W.cell? ⟨w.heap.size, 9, none⟩ = some (.int .i64 r1) ∧ w.heap.size < W.heap.size ∧ Below w.heap.size w W) : Below w.heap.size w W := by
  obtain ⟨h0, h1, h2, h3, h4, h5, h6, h7, h8, h9, hp, hB⟩ := h
  exact hB
/-- need's two results. -/
def rneedF (s : So) : Int × Bool :=
  if fineF s s.crop then (s.crop, true) else if s.wash.lo ≤ s.mineral.hi then (0, false) else
    let n := s.crop + (saltedF true s s.crop - 1000 * s.limit + (s.wash.lo - s.mineral.hi) - 1) / (s.wash.lo - s.mineral.hi)
    (n, decide (n ≤ 1000000000))
theorem rneed_eq (s : So) : needR s = if (rneedF s).2 then ((rneedF s).1, 0) else (0, 6) := by
  unfold needR rneedF
  cases fineF s s.crop
  · simp only [Bool.false_eq_true, if_false]
    split
    · simp
    · simp
  · simp

set_option maxHeartbeats 8000000 in
set_option maxRecDepth 100000 in
theorem rneed_any (a0 a1 li cr m0 m1 w0 w1 r0 r1 : Int) (w : World) (hf : So.fit 100000000 ⟨⟨a0, a1⟩, li, cr, ⟨m0, m1⟩, ⟨w0, w1⟩, ⟨r0, r1⟩⟩) (hli : 0 ≤ li ∧ li ≤ 100000000) :
    Calls Try.prog 60 #[.agg #[.int .i64 a0, .int .i64 a1, .int .i64 li, .int .i64 cr, .int .i64 m0, .int .i64 m1, .int .i64 w0, .int .i64 w1, .int .i64 r0, .int .i64 r1]] w fun e w' => e = .returned (.tuple #[.int .i64 (rneedF ⟨⟨a0, a1⟩, li, cr, ⟨m0, m1⟩, ⟨w0, w1⟩, ⟨r0, r1⟩⟩).1, .bool (rneedF ⟨⟨a0, a1⟩, li, cr, ⟨m0, m1⟩, ⟨w0, w1⟩, ⟨r0, r1⟩⟩).2]) ∧ Below w.heap.size w w' := by
  have hcr : 0 ≤ cr ∧ cr ≤ 1000000000 := hf.cr
  have hm1 : 0 ≤ m1 ∧ m1 ≤ 100000 := hf.m1
  have hw0 : 0 ≤ w0 ∧ w0 ≤ 100000 := hf.w0
  obtain ⟨wd, Hwd⟩ : ∃ wd, Hid (w.alloc (.cells #[.int .i64 a0, .int .i64 a1, .int .i64 li, .int .i64 cr, .int .i64 m0, .int .i64 m1, .int .i64 w0, .int .i64 w1, .int .i64 r0, .int .i64 r1] 25) = wd) := ⟨_, hide rfl⟩
  have HcB := hide (show wd.cell? ⟨w.heap.size, 0, none⟩ = some (.int .i64 a0) ∧ wd.cell? ⟨w.heap.size, 1, none⟩ = some (.int .i64 a1) ∧ wd.cell? ⟨w.heap.size, 2, none⟩ = some (.int .i64 li) ∧ wd.cell? ⟨w.heap.size, 3, none⟩ = some (.int .i64 cr) ∧ wd.cell? ⟨w.heap.size, 4, none⟩ = some (.int .i64 m0) ∧ wd.cell? ⟨w.heap.size, 5, none⟩ = some (.int .i64 m1) ∧ wd.cell? ⟨w.heap.size, 6, none⟩ = some (.int .i64 w0) ∧ wd.cell? ⟨w.heap.size, 7, none⟩ = some (.int .i64 w1) ∧ wd.cell? ⟨w.heap.size, 8, none⟩ = some (.int .i64 r0) ∧ wd.cell? ⟨w.heap.size, 9, none⟩ = some (.int .i64 r1) ∧ w.heap.size < wd.heap.size ∧ Below w.heap.size w wd from by
    rw [← Hwd.out]
    obtain ⟨q0, q1, q2, q3, q4, q5, q6, q7, q8, q9⟩ := (At.new w #[.int .i64 a0, .int .i64 a1, .int .i64 li, .int .i64 cr, .int .i64 m0, .int .i64 m1, .int .i64 w0, .int .i64 w1, .int .i64 r0, .int .i64 r1] 25 w.heap.size rfl _ rfl).c10
    exact ⟨q0, q1, q2, q3, q4, q5, q6, q7, q8, q9, by simp, below_new _ _⟩)
  have Hf := hide (hf.mono (B' := 100000000000000) (by omega))
  obtain ⟨F, hF⟩ : ∃ F, F = saltedF true ⟨⟨a0, a1⟩, li, cr, ⟨m0, m1⟩, ⟨w0, w1⟩, ⟨r0, r1⟩⟩ cr := ⟨_, rfl⟩
  have hbd := saltedF_bds (h := true) hf hcr.1 hcr.2
  rw [← hF] at hbd
  have hfin : fineF ⟨⟨a0, a1⟩, li, cr, ⟨m0, m1⟩, ⟨w0, w1⟩, ⟨r0, r1⟩⟩ cr = decide (F ≤ 1000 * li) := by rw [hF]; rfl
  have hspec : rneedF ⟨⟨a0, a1⟩, li, cr, ⟨m0, m1⟩, ⟨w0, w1⟩, ⟨r0, r1⟩⟩ = if F ≤ 1000 * li then (cr, true) else if w0 ≤ m1 then (0, false) else (cr + (F - 1000 * li + (w0 - m1) - 1) / (w0 - m1), decide (cr + (F - 1000 * li + (w0 - m1) - 1) / (w0 - m1) ≤ 1000000000)) := by
    unfold rneedF
    simp only [hfin, decide_eq_true_eq, ← hF]
  have Hspec := hide hspec; have HF := hide hF
  clear hspec hfin hF hf
  have hwr : IntKind.i64.wrap (1000 * li) = 1000 * li := by rw [IntKind.wrap_i64]; omega
  go_enter Try.func60, Try.ntmps60
  go_wp2_with fail
  rw [Hwd.out]
  go_region_held3 (fun W => W.cell? ⟨w.heap.size, 0, none⟩ = some (.int .i64 a0) ∧ W.cell? ⟨w.heap.size, 1, none⟩ = some (.int .i64 a1) ∧ W.cell? ⟨w.heap.size, 2, none⟩ = some (.int .i64 li) ∧ W.cell? ⟨w.heap.size, 3, none⟩ = some (.int .i64 cr) ∧ W.cell? ⟨w.heap.size, 4, none⟩ = some (.int .i64 m0) ∧ W.cell? ⟨w.heap.size, 5, none⟩ = some (.int .i64 m1) ∧ W.cell? ⟨w.heap.size, 6, none⟩ = some (.int .i64 w0) ∧ W.cell? ⟨w.heap.size, 7, none⟩ = some (.int .i64 w1) ∧ W.cell? ⟨w.heap.size, 8, none⟩ = some (.int .i64 r0) ∧ W.cell? ⟨w.heap.size, 9, none⟩ = some (.int .i64 r1) ∧ w.heap.size < W.heap.size ∧ Below w.heap.size w W) (first | assumption | exact keepN_drew HcB.out | (refine keepN hb ?_; assumption)) (first | (go_at_call 92; refine (most_any a0 a1 li cr m0 m1 w0 w1 r0 r1 cr _ Hf.out hcr.1 hcr.2).mono ?_; rintro e w' ⟨rfl, hb⟩; rw [← HF.out]))
  all_goals
    by_cases hz : F ≤ 1000 * li
    · have hB := lastN (by assumption)
      go_wp2_with fail
      go_ret2
      rw [Hspec.out, if_pos hz]
      exact ⟨rfl, hB⟩
    · by_cases hwm : w0 ≤ m1
      · have hB := lastN (by assumption)
        have hwm' : w0 - m1 ≤ 0 := by omega
        go_wp2_with fail
        go_ret2
        rw [Hspec.out, if_neg (by omega), if_pos hwm]
        exact ⟨rfl, hB⟩
      · have hwm' : ¬ (w0 - m1 ≤ 0) := by omega
        go_wp2_with fail
        go_region_held3 (fun W => W.cell? ⟨w.heap.size, 0, none⟩ = some (.int .i64 a0) ∧ W.cell? ⟨w.heap.size, 1, none⟩ = some (.int .i64 a1) ∧ W.cell? ⟨w.heap.size, 2, none⟩ = some (.int .i64 li) ∧ W.cell? ⟨w.heap.size, 3, none⟩ = some (.int .i64 cr) ∧ W.cell? ⟨w.heap.size, 4, none⟩ = some (.int .i64 m0) ∧ W.cell? ⟨w.heap.size, 5, none⟩ = some (.int .i64 m1) ∧ W.cell? ⟨w.heap.size, 6, none⟩ = some (.int .i64 w0) ∧ W.cell? ⟨w.heap.size, 7, none⟩ = some (.int .i64 w1) ∧ W.cell? ⟨w.heap.size, 8, none⟩ = some (.int .i64 r0) ∧ W.cell? ⟨w.heap.size, 9, none⟩ = some (.int .i64 r1) ∧ w.heap.size < W.heap.size ∧ Below w.heap.size w W) (first | assumption | (refine keepN_drew ?_; assumption) | (refine keepN hb ?_; assumption)) (first | (go_at_call 92; refine (most_any a0 a1 li cr m0 m1 w0 w1 r0 r1 cr _ Hf.out hcr.1 hcr.2).mono ?_; rintro e w' ⟨rfl, hb⟩; rw [← HF.out]))
        all_goals
          obtain ⟨o, ho⟩ : ∃ o, o = F - 1000 * li := ⟨_, rfl⟩
          obtain ⟨m, hm⟩ : ∃ m, m = w0 - m1 := ⟨_, rfl⟩
          rw [show IntKind.i64.wrap (F - 1000 * li) = o by rw [IntKind.wrap_i64]; omega, ← hm]
          have hB := lastN (by assumption)
          have hob : 0 < o ∧ o ≤ 1000000000000000000 := by omega
          have hmb : 0 < m ∧ m ≤ 100000 := by omega
          have hdv := hide (show 0 ≤ (o + m - 1) / m ∧ (o + m - 1) / m ≤ o + m - 1 from ⟨Int.ediv_nonneg (by omega) (by omega), Int.ediv_le_self _ (by omega)⟩)
          have hz0 : (m == 0) = false := by simp; omega
          have Ho := hide ho; have Hm := hide hm; have Hz := hide hz; have Hwm := hide hwm
          clear ho hm hz hwm hwm' hwr
          go_wp2_with fail
          go_quiet (fail)
          go_wp2_with fail
          rw [show wrap64 (cr + (o + m - 1) / m) = cr + (o + m - 1) / m by have := hdv.out; unfold wrap64; omega]
          go_ret2
          rw [Hspec.out, if_neg (by have := Hz.out; omega), if_neg (by have := Hwm.out; omega), ← Ho.out, ← Hm.out]
          exact ⟨rfl, below_drewN hB _⟩

set_option maxHeartbeats 2000000 in
theorem rneed_fn (a0 a1 li cr m0 m1 w0 w1 r0 r1 : Int) (w : World) :
    Calls Try.prog 17 #[.agg #[.int .i64 a0, .int .i64 a1, .int .i64 li, .int .i64 cr, .int .i64 m0, .int .i64 m1, .int .i64 w0, .int .i64 w1, .int .i64 r0, .int .i64 r1]] w fun e w' => e = .returned (.tuple #[.int .i64 (needF ⟨⟨a0, a1⟩, li, cr, ⟨m0, m1⟩, ⟨w0, w1⟩, ⟨r0, r1⟩⟩).1, .int .i64 (needF ⟨⟨a0, a1⟩, li, cr, ⟨m0, m1⟩, ⟨w0, w1⟩, ⟨r0, r1⟩⟩).2]) ∧ Below w.heap.size w w' := by
  obtain ⟨w3, Hw3⟩ : ∃ w3, Hid (w.alloc (.cells #[.int .i64 a0, .int .i64 a1, .int .i64 li, .int .i64 cr, .int .i64 m0, .int .i64 m1, .int .i64 w0, .int .i64 w1, .int .i64 r0, .int .i64 r1] 25) = w3) := ⟨_, hide rfl⟩
  have hB : Below w.heap.size w w3 := by rw [← Hw3.out]; exact below_new _ _
  have hs : At w3 w.heap.size [.int .i64 a0, .int .i64 a1, .int .i64 li, .int .i64 cr, .int .i64 m0, .int .i64 m1, .int .i64 w0, .int .i64 w1, .int .i64 r0, .int .i64 r1] := by rw [← Hw3.out]; exact At.new w #[.int .i64 a0, .int .i64 a1, .int .i64 li, .int .i64 cr, .int .i64 m0, .int .i64 m1, .int .i64 w0, .int .i64 w1, .int .i64 r0, .int .i64 r1] _ w.heap.size rfl _ rfl
  have hck := hide (ref06_check a0 a1 li cr m0 m1 w0 w1 r0 r1 w3)
  cases h0 : soOk ⟨⟨a0, a1⟩, li, cr, ⟨m0, m1⟩, ⟨w0, w1⟩, ⟨r0, r1⟩⟩
  · have hce : soCheck ⟨⟨a0, a1⟩, li, cr, ⟨m0, m1⟩, ⟨w0, w1⟩, ⟨r0, r1⟩⟩ = 60 := by simp [soCheck, h0]
    have hae : needF ⟨⟨a0, a1⟩, li, cr, ⟨m0, m1⟩, ⟨w0, w1⟩, ⟨r0, r1⟩⟩ = (0, 60) := by simp [needF, h0]
    have Hce := hide hce; have Hae := hide hae
    clear hae hce h0
    go_enter Try.func17, Try.ntmps17
    go_wp2_with fail
    rw [Hw3.out]
    refine hck.out.mono ?_
    rintro e w' ⟨rfl, hb⟩
    rw [Hce.out]
    go_wp2
    go_ret2
    rw [Hae.out]
    exact ⟨rfl, hB.trans (hb.mono hB.size)⟩
  · have hce : soCheck ⟨⟨a0, a1⟩, li, cr, ⟨m0, m1⟩, ⟨w0, w1⟩, ⟨r0, r1⟩⟩ = 0 := by simp [soCheck, h0]
    have hfit := So.fit_of h0
    have hli : 0 ≤ li ∧ li ≤ 100000000 := So.limit_of h0
    have hnf : needF ⟨⟨a0, a1⟩, li, cr, ⟨m0, m1⟩, ⟨w0, w1⟩, ⟨r0, r1⟩⟩ = if (rneedF ⟨⟨a0, a1⟩, li, cr, ⟨m0, m1⟩, ⟨w0, w1⟩, ⟨r0, r1⟩⟩).2 then ((rneedF ⟨⟨a0, a1⟩, li, cr, ⟨m0, m1⟩, ⟨w0, w1⟩, ⟨r0, r1⟩⟩).1, 0) else (0, 6) := by rw [← rneed_eq]; simp [needF, h0]
    obtain ⟨a, b, hab⟩ : ∃ a b, rneedF ⟨⟨a0, a1⟩, li, cr, ⟨m0, m1⟩, ⟨w0, w1⟩, ⟨r0, r1⟩⟩ = (a, b) := ⟨_, _, rfl⟩
    rw [hab] at hnf
    have hre := fun W => rneed_any a0 a1 li cr m0 m1 w0 w1 r0 r1 W hfit hli
    rw [hab] at hre
    have Hre := fun W => hide (hre W)
    have Hnf := hide hnf; have Hce := hide hce
    clear hnf hce h0 hfit hre hab
    cases b
    all_goals
      go_enter Try.func17, Try.ntmps17
      go_wp2_with fail
      rw [Hw3.out]
      refine hck.out.mono ?_
      rintro e w4 ⟨rfl, hb⟩
      rw [Hce.out]
      obtain ⟨q0, q1, q2, q3, q4, q5, q6, q7, q8, q9⟩ := (hs.below hb).c10
      go_wp2_with fail
      refine (Hre _).out.mono ?_
      rintro e w5 ⟨rfl, hb5⟩
      go_wp2
      go_ret2
      rw [Hnf.out]
      exact ⟨rfl, hB.trans ((hb.mono hB.size).trans (hb5.mono (by have := hB.size; have := hb.size; omega)))⟩
end Go.Proofs.Ytmbhnjpaieimbaa
