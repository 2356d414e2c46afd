/- Gallery and its reference: least, most, comparisons, by contracts. -/
import Derived.Test.YtgklcilpohkpkaaProg
import Derived.Test.YtgklcilpohkpkaaBase
import Derived.Deep.QuietTactic
import Derived.BigQuiet
set_option linter.unusedVariables false
set_option linter.unusedSimpArgs false
namespace Go.Proofs.Ytgklcilpohkpkaa
open Go.RowKit Go.Shelf
attribute [local go_sem] ite_min ite_max

/-- What flows out of a reach at the least, at the most. -/
def leastF (r : Rc) (n : Int) : Int := max 0 (min n r.cap.lo - r.leak.hi) + r.gain.lo
def mostF (r : Rc) (n : Int) : Int := max 0 (min n r.cap.hi - r.leak.lo) + r.gain.hi

set_option maxHeartbeats 400000 in
theorem least_any (c0 c1 l0 l1 g0 g1 n : Int) (w : World) (h1 : 0 ≤ n ∧ n ≤ 1000000000) (h2 : 0 ≤ c0 ∧ c0 ≤ 1000000000) (h3 : 0 ≤ l1 ∧ l1 ≤ 1000000000) (h4 : 0 ≤ g0 ∧ g0 ≤ 1000000000) :
    Calls Try.prog 88 #[.agg #[.int .i64 c0, .int .i64 c1, .int .i64 l0, .int .i64 l1, .int .i64 g0, .int .i64 g1], .int .i64 n] w fun e w' => e = .returned (.int .i64 (leastF ⟨⟨c0, c1⟩, ⟨l0, l1⟩, ⟨g0, g1⟩⟩ n)) ∧ Below w.heap.size w w' := by
  obtain ⟨h1a, h1b⟩ := h1; obtain ⟨h2a, h2b⟩ := h2; obtain ⟨h3a, h3b⟩ := h3; obtain ⟨h4a, h4b⟩ := h4
  go_enter Try.func88, Try.ntmps88
  go_wp2
  all_goals (go_ret; exact ⟨ret_int (by simp only [leastF]; omega), below_new _ _⟩)

set_option maxHeartbeats 400000 in
theorem most_any (c0 c1 l0 l1 g0 g1 n : Int) (w : World) (h1 : 0 ≤ n ∧ n ≤ 1000000000) (h2 : 0 ≤ c1 ∧ c1 ≤ 1000000000) (h3 : 0 ≤ l0 ∧ l0 ≤ 1000000000) (h4 : 0 ≤ g1 ∧ g1 ≤ 1000000000) :
    Calls Try.prog 87 #[.agg #[.int .i64 c0, .int .i64 c1, .int .i64 l0, .int .i64 l1, .int .i64 g0, .int .i64 g1], .int .i64 n] w fun e w' => e = .returned (.int .i64 (mostF ⟨⟨c0, c1⟩, ⟨l0, l1⟩, ⟨g0, g1⟩⟩ n)) ∧ Below w.heap.size w w' := by
  obtain ⟨h1a, h1b⟩ := h1; obtain ⟨h2a, h2b⟩ := h2; obtain ⟨h3a, h3b⟩ := h3; obtain ⟨h4a, h4b⟩ := h4
  go_enter Try.func87, Try.ntmps87
  go_wp2
  all_goals (go_ret; exact ⟨ret_int (by simp only [mostF]; omega), below_new _ _⟩)

def cmpI (a b : Int) : Int := if a < b then -1 else if b < a then 1 else 0
/-- Two lists of numbers, as slices.Compare compares them. -/
def cmpL : List Int → List Int → Int
  | [], [] => 0
  | [], _ :: _ => -1
  | _ :: _, [] => 1
  | a :: s, b :: t => if cmpI a b = 0 then cmpL s t else cmpI a b
theorem cmpL_step (a b : List Int) (k : Nat) (x y : Int) (hx : a[k]? = some x) (hy : b[k]? = some y) (h : cmpI x y = 0) : cmpL (a.drop k) (b.drop k) = cmpL (a.drop (k + 1)) (b.drop (k + 1)) := by
  obtain ⟨hk, rfl⟩ := List.getElem?_eq_some_iff.1 hx
  obtain ⟨hk', rfl⟩ := List.getElem?_eq_some_iff.1 hy
  rw [List.drop_eq_getElem_cons hk, List.drop_eq_getElem_cons hk', cmpL, if_pos h]
theorem cmpL_stop (a b : List Int) (k : Nat) (x y : Int) (hx : a[k]? = some x) (hy : b[k]? = some y) (h : cmpI x y ≠ 0) : cmpL (a.drop k) (b.drop k) = cmpI x y := by
  obtain ⟨hk, rfl⟩ := List.getElem?_eq_some_iff.1 hx
  obtain ⟨hk', rfl⟩ := List.getElem?_eq_some_iff.1 hy
  rw [List.drop_eq_getElem_cons hk, List.drop_eq_getElem_cons hk', cmpL, if_neg h]

end Go.Proofs.Ytgklcilpohkpkaa
