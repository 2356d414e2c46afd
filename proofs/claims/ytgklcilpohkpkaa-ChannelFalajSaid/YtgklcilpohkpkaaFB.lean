/- Gallery: Source's own functions, by contracts. Gallery: Source, by contract. Gallery: the reference's Years and Source, by contract. -/
import Derived.Test.YtgklcilpohkpkaaF2
import Derived.Test.YtgklcilpohkpkaaG7
import Derived.Test.YtgklcilpohkpkaaRegIn
import Derived.Deep.QuietTactic
import Derived.BigQuiet
import Derived.Handy
import Derived.Deep.RegionHeld3
import Derived.Deep.DrawnRows
set_option linter.unusedVariables false
set_option linter.unusedSimpArgs false
namespace Go.Proofs.Ytgklcilpohkpkaa
open Go.RowKit Go.Shelf
attribute [local go_sem] ite_min ite_max

def Yr.bad (y : Yr) : Bool := !(y.ok)
theorem spOk_bad (m : Int) (s : Sp) : Sp.ok 0 m s = !(Sp.bad m s) := by
  rw [Bool.eq_iff_iff]; simp only [Sp.bad, Sp.ok, Bool.and_eq_true, decide_eq_true_eq, Bool.not_eq_true', Bool.or_eq_false_iff, decide_eq_false_iff_not]; omega
end Go.Proofs.Ytgklcilpohkpkaa
namespace Go.Proofs.Ytgklcilpohkpkaa
open Go.RowKit Go.Shelf
attribute [local go_sem] ite_min ite_max
def SrcPost (ys : List Yr) (ps : List Sp) (w : World) (e : Ending) (w' : World) : Prop :=
  e = .returned (.tuple #[.agg #[.int .i64 (srcV ys ps).lo, .int .i64 (srcV ys ps).hi], .int .i64 (srcErr ys ps)]) ∧ Below w.heap.size w w'
theorem srcE (ys : List Yr) (ps : List Sp) (h : yearsOk ys ps = false) : srcV ys ps = ⟨0, 0⟩ ∧ srcErr ys ps = 22 := by simp [srcV, srcErr, h]

theorem any_bad (ys : List Yr) : ys.any Yr.bad = !(ys.all Yr.ok) := by
  induction ys with
  | nil => rfl
  | cons y ys ih => simp [Yr.bad, ih]
theorem anyBad_all (m : Int) (ps : List Sp) : anyBad m ps = !(ps.all (Sp.ok 0 m)) := by
  induction ps with
  | nil => rfl
  | cons y ys ih => simp only [anyBad, List.any_cons, List.all_cons, Bool.not_and] at *; rw [ih, spOk_bad]; simp
end Go.Proofs.Ytgklcilpohkpkaa
namespace Go.Proofs.Ytgklcilpohkpkaa
open Go.RowKit Go.Shelf
attribute [local go_sem] ite_min ite_max
theorem all_miss {α : Type} {p : α → Bool} {xs : List α} {k : Nat} {x : α} (hx : xs[k]? = some x) (h : p x = false) : xs.all p = false := by
  rw [Bool.eq_false_iff]; intro ha; have := List.all_eq_true.1 ha x (List.mem_of_getElem? hx); rw [h] at this; cases this
theorem pre_t {α : Type} {p : α → Bool} {xs : List α} {k : Nat} {x : α} (hx : xs[k]? = some x) (h : p x = true) (hp : ∀ y ∈ xs.take k, p y = true) : ∀ y ∈ xs.take (k + 1), p y = true := by
  intro y hy
  rw [take_snoc hx] at hy
  rcases List.mem_append.1 hy with hy | hy
  · exact hp y hy
  · simp at hy; subst hy; exact h
theorem all_done {α : Type} {p : α → Bool} {xs : List α} {k : Nat} (hk : xs.length ≤ k) (hp : ∀ y ∈ xs.take k, p y = true) : xs.all p = true := by
  rw [List.take_of_length_le hk] at hp
  exact List.all_eq_true.2 hp
theorem sum_take {α : Type} (f : α → Int) {xs : List α} {k : Nat} {x : α} (h : xs[k]? = some x) : ((xs.take (k + 1)).map f).sum = ((xs.take k).map f).sum + f x := by rw [take_snoc h]; simp
end Go.Proofs.Ytgklcilpohkpkaa
