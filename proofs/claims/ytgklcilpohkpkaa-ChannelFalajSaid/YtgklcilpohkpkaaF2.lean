/- Gallery: what years and pumps give, plain. No program is named here. -/
import Derived.Test.YtgklcilpohkpkaaGA
set_option linter.unusedVariables false
set_option linter.unusedSimpArgs false
namespace Go.Proofs.Ytgklcilpohkpkaa
open Go.RowKit Go.Shelf
def Yr.ok (y : Yr) : Bool := Sp.ok 0 10000 y.fell && inB 0 1000000 y.weight
def yearsOk (ys : List Yr) (ps : List Sp) : Bool := decide (ys.length ≤ 12) && decide (ps.length ≤ 12) && ys.all Yr.ok && ps.all (Sp.ok 0 1000000)
def rainL (ys : List Yr) : Int := (ys.map fun y => y.fell.lo * y.weight).sum
def rainH (ys : List Yr) : Int := (ys.map fun y => y.fell.hi * y.weight).sum
def takL (ps : List Sp) : Int := (ps.map fun p => p.lo).sum
def takH (ps : List Sp) : Int := (ps.map fun p => p.hi).sum
/-- Thousandths, rounded down. -/
def flK (a : Int) : Int := a / 1000
def clip (n : Int) : Int := max 0 (min n 1000000)
def srcS (ys : List Yr) (ps : List Sp) : Sp := ⟨clip (flK (rainL ys - 1000 * takH ps)), clip (-flK (-(rainH ys - 1000 * takL ps)))⟩
def srcErr (ys : List Yr) (ps : List Sp) : Int := if yearsOk ys ps then 0 else 22
def srcV (ys : List Yr) (ps : List Sp) : Sp := if yearsOk ys ps then srcS ys ps else ⟨0, 0⟩
theorem flK_tdiv (a : Int) : flK a = if a.tdiv 1000 * 1000 > a then a.tdiv 1000 - 1 else a.tdiv 1000 := by
  unfold flK
  rcases Int.le_total 0 a with h | h
  · rw [Int.tdiv_eq_ediv_of_nonneg h]; split <;> omega
  · have : a.tdiv 1000 = -((-a) / 1000) := by
      rw [← Int.neg_neg a, Int.neg_tdiv, Int.tdiv_eq_ediv_of_nonneg (by omega)]; simp
    rw [this]; split <;> omega
theorem ceK_tdiv (a : Int) : -flK (-a) = if a.tdiv 1000 * 1000 < a then a.tdiv 1000 + 1 else a.tdiv 1000 := by
  unfold flK
  rcases Int.le_total 0 a with h | h
  · rw [Int.tdiv_eq_ediv_of_nonneg h]; split <;> omega
  · have : a.tdiv 1000 = -((-a) / 1000) := by
      rw [← Int.neg_neg a, Int.neg_tdiv, Int.tdiv_eq_ediv_of_nonneg (by omega)]; simp
    rw [this]; split <;> omega
theorem flK_down (a : Int) : flK a = if a < 0 then -((999 - a).tdiv 1000) else a.tdiv 1000 := by
  unfold flK
  split
  · rw [Int.tdiv_eq_ediv_of_nonneg (by omega)]; omega
  · rw [Int.tdiv_eq_ediv_of_nonneg (by omega)]
theorem Yr.ok_bd {y : Yr} (h : y.ok = true) : 0 ≤ y.fell.lo ∧ y.fell.lo ≤ y.fell.hi ∧ y.fell.hi ≤ 10000 ∧ 0 ≤ y.weight ∧ y.weight ≤ 1000000 := by
  simp only [Yr.ok, Sp.ok, inB, Bool.and_eq_true, decide_eq_true_eq] at h
  omega
theorem Sp.ok_bd {m : Int} {s : Sp} (h : Sp.ok 0 m s = true) : 0 ≤ s.lo ∧ s.lo ≤ s.hi ∧ s.hi ≤ m := by
  simp only [Sp.ok, Bool.and_eq_true, decide_eq_true_eq] at h
  omega
theorem gmul_bd {a b x y : Int} (h1 : 0 ≤ a) (h2 : a ≤ x) (h3 : 0 ≤ b) (h4 : b ≤ y) : 0 ≤ a * b ∧ a * b ≤ x * y :=
  ⟨Int.mul_nonneg h1 h3, Int.mul_le_mul h2 h4 h3 (Int.le_trans h1 h2)⟩
/-- Sums of what is bounded are bounded. -/
theorem sum_bd {α : Type} (f : α → Int) (m : Int) : ∀ (l : List α), (∀ x ∈ l, 0 ≤ f x ∧ f x ≤ m) → 0 ≤ (l.map f).sum ∧ (l.map f).sum ≤ m * l.length
  | [], _ => by simp
  | x :: l, h => by
    have h1 := h x (by simp)
    have h2 := sum_bd f m l (fun y hy => h y (by simp [hy]))
    have h3 : m * ((x :: l).length : Int) = m * l.length + m := by
      rw [List.length_cons]; push_cast; rw [Int.mul_add, Int.mul_one]
    rw [h3]
    simp only [List.map_cons, List.sum_cons]
    omega
theorem rain_bd {ys : List Yr} (h : ∀ y ∈ ys, y.ok = true) : (0 ≤ rainL ys ∧ rainL ys ≤ 10000000000 * ys.length) ∧ 0 ≤ rainH ys ∧ rainH ys ≤ 10000000000 * ys.length := by
  refine ⟨sum_bd _ _ _ fun y hy => ?_, sum_bd _ _ _ fun y hy => ?_⟩
  · have := Yr.ok_bd (h y hy)
    exact gmul_bd (x := 10000) (y := 1000000) (by omega) (by omega) (by omega) (by omega)
  · have := Yr.ok_bd (h y hy)
    exact gmul_bd (x := 10000) (y := 1000000) (by omega) (by omega) (by omega) (by omega)
theorem tak_bd {ps : List Sp} (h : ∀ p ∈ ps, Sp.ok 0 1000000 p = true) : (0 ≤ takL ps ∧ takL ps ≤ 1000000 * ps.length) ∧ 0 ≤ takH ps ∧ takH ps ≤ 1000000 * ps.length := by
  refine ⟨sum_bd _ _ _ fun y hy => ?_, sum_bd _ _ _ fun y hy => ?_⟩
  · have := Sp.ok_bd (h y hy); omega
  · have := Sp.ok_bd (h y hy); omega
theorem yearsOk_parts {ys : List Yr} {ps : List Sp} (h : yearsOk ys ps = true) : ys.length ≤ 12 ∧ ps.length ≤ 12 ∧ (∀ y ∈ ys, y.ok = true) ∧ ∀ p ∈ ps, Sp.ok 0 1000000 p = true := by
  simp only [yearsOk, Bool.and_eq_true, decide_eq_true_eq, List.all_eq_true] at h
  exact ⟨h.1.1.1, h.1.1.2, h.1.2, h.2⟩
end Go.Proofs.Ytgklcilpohkpkaa
