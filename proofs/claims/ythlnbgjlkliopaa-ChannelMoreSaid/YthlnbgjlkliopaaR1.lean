/- The reference of channel: small functions, by contracts. -/
import Derived.Test.YthlnbgjlkliopaaC7
import Derived.Test.YthlnbgjlkliopaaApp
set_option linter.unusedVariables false
set_option linter.unusedSimpArgs false
namespace Go.Proofs.Ythlnbgjlkliopaa
open Go.RowKit Go.Shelf
theorem rCycle_any (Ac Af : Option Addr) (nc cc nf cf : Nat) (dry days : Int) (w : World) (h1 : 0 ≤ days) (h2 : days ≤ 1000000) :
    Calls Try.prog 46 #[.agg #[.slice Ac nc cc, .slice Af nf cf, .int .i64 dry, .int .i64 days]] w fun e w' => e = .returned (.int .i64 (days * 1440)) ∧ Below w.heap.size w w' := by
  go_enter Try.func46, Try.ntmps46
  go_wp2
  go_ret
  exact ⟨rfl, below_new _ _⟩
theorem rField_any (Ac Af : Option Addr) (nc cc nf cf : Nat) (dry days k : Int) (w : World) (hnf : nf ≤ 1000) :
    Calls Try.prog 45 #[.agg #[.slice Ac nc cc, .slice Af nf cf, .int .i64 dry, .int .i64 days], .int .i64 k] w fun e w' => e = .returned (.bool (inF nf k)) ∧ Below w.heap.size w w' := by
  go_enter Try.func45, Try.ntmps45
  go_wp2_with (go_at_call 44; refine (aflajref05_within _ _ _ _).mono ?_; rintro e w' ⟨rfl, rfl⟩)
  go_ret
  exact ⟨ret_bool (by rw [Bool.eq_iff_iff]; simp [inB, inF]; omega), below_new _ _⟩
def great (cs : List Ca) (fs : List Int) (nu : Nat) : Bool := decide (24 < cs.length) || decide (18 < fs.length) || decide (80 < nu)
theorem rGreat_any (Ac Af Au : Option Addr) (nc cc nf cf nu cu : Nat) (dry days : Int) (cs : List Ca) (fs : List Int) (w : World) (hnc : nc = cs.length) (hnf : nf = fs.length) :
    Calls Try.prog 21 #[.agg #[.slice Ac nc cc, .slice Af nf cf, .int .i64 dry, .int .i64 days], .slice Au nu cu] w fun e w' => e = .returned (.bool (great cs fs nu)) ∧ Below w.heap.size w w' := by
  have Hc := hide hnc; have Hf := hide hnf
  clear hnc hnf
  by_cases h1 : 24 < nc
  · go_enter Try.func21, Try.ntmps21
    go_wp2
    go_ret
    exact ⟨ret_bool (by unfold great; rw [← Hc.out, ← Hf.out]; simp [h1]), below_new _ _⟩
  · by_cases h2 : 18 < nf
    · go_enter Try.func21, Try.ntmps21
      go_wp2
      go_ret
      exact ⟨ret_bool (by unfold great; rw [← Hc.out, ← Hf.out]; simp [h2]), below_new _ _⟩
    · by_cases h3 : 80 < nu
      all_goals
        go_enter Try.func21, Try.ntmps21
        go_wp2
        go_ret
        exact ⟨ret_bool (by unfold great; rw [← Hc.out, ← Hf.out]; simp [h1, h2, h3]; try omega), below_new _ _⟩
end Go.Proofs.Ythlnbgjlkliopaa
