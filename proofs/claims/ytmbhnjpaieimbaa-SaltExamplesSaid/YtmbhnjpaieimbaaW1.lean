/- Channel: what a canal lets through, by contracts. -/
import Derived.Test.YtmbhnjpaieimbaaC7
import Derived.Test.YtmbhnjpaieimbaaCE
set_option linter.unusedVariables false
set_option linter.unusedSimpArgs false
namespace Go.Proofs.Ytmbhnjpaieimbaa
open Go.RowKit Go.Shelf
attribute [local go_sem ↓] Go.wp_at_zero Go.wp_at_succ
def downF (v fill thr : Int) : Int := max 0 (v - fill) * thr / 1000
def upG (v fill thr : Int) : Int := (max 0 (v - fill) * thr + 999) / 1000
/-- Amounts that no sum of them overflows. -/
def amt (v : Int) : Prop := 0 ≤ v ∧ v ≤ 1000000000000
theorem mul_bd {x t : Int} (h0 : 0 ≤ x) (h1 : x ≤ 1000000000000) (t0 : 0 ≤ t) (t1 : t ≤ 1000) : 0 ≤ x * t ∧ x * t ≤ 1000000000000000 := by
  refine ⟨Int.mul_nonneg h0 t0, ?_⟩
  have := Int.mul_le_mul h1 t1 t0 (by omega : (0 : Int) ≤ 1000000000000)
  omega
theorem w64 {x : Int} (h : -9223372036854775808 ≤ x ∧ x ≤ 9223372036854775807) : wrap64 x = x := by
  unfold wrap64
  omega
theorem quo1000 {y : Int} (h0 : 0 ≤ y) (h1 : y ≤ 2000000000000000) : wrap64 ((wrap64 y).tdiv 1000) = y / 1000 := by
  rw [w64 (x := y) (by omega), Int.tdiv_eq_ediv_of_nonneg h0]
  exact w64 (by omega)
set_option maxHeartbeats 1000000 in
theorem down_any (v fill thr : Int) (w : World) (hv : amt v) (hf : amt fill) (t0 : 0 ≤ thr) (t1 : thr ≤ 1000) :
    Calls Try.prog 132 #[.int .i64 v, .int .i64 fill, .int .i64 thr] w fun e w' => e = .returned (.int .i64 (downF v fill thr)) ∧ w = w' := by
  obtain ⟨v0, v1⟩ := hv
  obtain ⟨f0, f1⟩ := hf
  by_cases h : fill < v
  · have Hb := hide (mul_bd (x := v - fill) (by omega) (by omega) t0 t1)
    have h1 : (0 : Int) < v - fill := by omega
    go_enter Try.func132, Try.ntmps132
    go_wp2
    go_ret
    exact ⟨ret_int (by rw [quo1000 Hb.out.1 (by have := Hb.out.2; omega)]; unfold downF; rw [Int.max_eq_right (by omega)]), rfl⟩
  · have h1 : v - fill ≤ 0 := by omega
    go_enter Try.func132, Try.ntmps132
    go_wp2
    go_ret
    exact ⟨ret_int (by unfold downF; rw [Int.max_eq_left (by omega)]; simp), rfl⟩
set_option maxHeartbeats 1000000 in
theorem up_fn (v fill thr : Int) (w : World) (hv : amt v) (hf : amt fill) (t0 : 0 ≤ thr) (t1 : thr ≤ 1000) :
    Calls Try.prog 133 #[.int .i64 v, .int .i64 fill, .int .i64 thr] w fun e w' => e = .returned (.int .i64 (upG v fill thr)) ∧ w = w' := by
  obtain ⟨v0, v1⟩ := hv
  obtain ⟨f0, f1⟩ := hf
  by_cases h : fill < v
  · have Hb := hide (mul_bd (x := v - fill) (by omega) (by omega) t0 t1)
    have h1 : (0 : Int) < v - fill := by omega
    go_enter Try.func133, Try.ntmps133
    go_wp2
    go_ret
    refine ⟨ret_int ?_, rfl⟩
    have hb := Hb.out
    unfold upG
    rw [Int.max_eq_right (by omega)]
    generalize (v - fill) * thr = m at hb ⊢
    simp only [w64 (x := m) (by omega), w64 (x := m + 1000) (by omega), w64 (x := m + 1000 - 1) (by omega)]
    rw [Int.tdiv_eq_ediv_of_nonneg (by omega), w64 (by omega), show m + 1000 - 1 = m + 999 by omega]
  · have h1 : v - fill ≤ 0 := by omega
    go_enter Try.func133, Try.ntmps133
    go_wp2
    go_ret
    exact ⟨ret_int (by unfold upG; rw [Int.max_eq_left (by omega)]; simp), rfl⟩
theorem downF_bd {v fill thr : Int} (hv : amt v) (hf : amt fill) (t0 : 0 ≤ thr) (t1 : thr ≤ 1000) : 0 ≤ downF v fill thr ∧ downF v fill thr ≤ v := by
  unfold downF
  obtain ⟨v0, v1⟩ := hv
  obtain ⟨f0, f1⟩ := hf
  obtain ⟨x, hx⟩ : ∃ x, x = max 0 (v - fill) := ⟨_, rfl⟩
  rw [← hx]
  have h1 : 0 ≤ x ∧ x ≤ v := by omega
  have h2 := Int.mul_nonneg h1.1 t0
  have h3 := Int.mul_le_mul_of_nonneg_left t1 h1.1
  omega
theorem upG_bd {v fill thr : Int} (hv : amt v) (hf : amt fill) (t0 : 0 ≤ thr) (t1 : thr ≤ 1000) : 0 ≤ upG v fill thr ∧ upG v fill thr ≤ v := by
  unfold upG
  obtain ⟨v0, v1⟩ := hv
  obtain ⟨f0, f1⟩ := hf
  obtain ⟨x, hx⟩ : ∃ x, x = max 0 (v - fill) := ⟨_, rfl⟩
  rw [← hx]
  have h1 : 0 ≤ x ∧ x ≤ v := by omega
  have h2 := Int.mul_nonneg h1.1 t0
  have h3 := Int.mul_le_mul_of_nonneg_left t1 h1.1
  omega
theorem flows_any (a b : Int) (w : World) :
    Calls Try.prog 120 #[.agg #[.int .i64 a, .int .i64 b]] w fun e w' => e = .returned (.bool (Sp.ok 0 13000000 ⟨a, b⟩)) ∧ Below w.heap.size w w' := by
  go_enter Try.func120, Try.ntmps120
  go_wp2_with fail
  refine calls_gen fun W HW => ?_
  have hb : Below w.heap.size w W := by rw [← HW.out]; exact below_new _ _
  refine (channel_proper _ _ _ _).mono ?_
  rintro e w' ⟨rfl, hb2⟩
  go_wp2
  go_ret
  exact ⟨rfl, hb.trans (hb2.mono hb.size)⟩
/-- A canal at work. -/
structure Wk where
  fill : Sp
  thr : Sp
  deriving DecidableEq
def wkF (seep fill : Sp) (dry : Bool) : Wk := ⟨if dry then fill else ⟨0, 0⟩, ⟨1000 - seep.hi, 1000 - seep.lo⟩⟩
def Wk.wf (x : Wk) : Prop := amt x.fill.lo ∧ amt x.fill.hi ∧ (0 ≤ x.thr.lo ∧ x.thr.lo ≤ 1000) ∧ (0 ≤ x.thr.hi ∧ x.thr.hi ≤ 1000)
set_option maxHeartbeats 2000000 in
theorem work_any (f s0 s1 l0 l1 : Int) (dry : Bool) (w : World) (hs0 : 0 ≤ s0 ∧ s0 ≤ 1000) (hs1 : 0 ≤ s1 ∧ s1 ≤ 1000) :
    Calls Try.prog 107 #[.agg #[.int .i64 f, .int .i64 s0, .int .i64 s1, .int .i64 l0, .int .i64 l1], .bool dry] w fun e w' => e = .returned (.agg #[.int .i64 (wkF ⟨s0, s1⟩ ⟨l0, l1⟩ dry).fill.lo, .int .i64 (wkF ⟨s0, s1⟩ ⟨l0, l1⟩ dry).fill.hi, .int .i64 (1000 - s1), .int .i64 (1000 - s0)]) ∧ Below w.heap.size w w' := by
  cases dry
  all_goals
    go_enter Try.func107, Try.ntmps107
    go_wp2
    refine bodyPost_ret (by simp [results, Try.results107, go_sem, wkF]; try rfl) rfl ⟨rfl, ?_⟩
    exact (((Below.refl _ _).alloc (Nat.le_refl _) _).alloc (by simp) _).alloc (by simp; omega) _
end Go.Proofs.Ytmbhnjpaieimbaa
