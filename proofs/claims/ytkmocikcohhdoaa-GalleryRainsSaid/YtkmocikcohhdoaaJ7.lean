/- Gallery, outright: more rain, a pump, years that are known better: plain. No program is named here. -/
import Derived.Test.YtkmocikcohhdoaaF2
set_option linter.unusedVariables false
set_option linter.unusedSimpArgs false
namespace Go.Proofs.Ytkmocikcohhdoaa
open Go.RowKit Go.Shelf
theorem sum_le {α : Type} (f h : α → Int) : ∀ (l : List α), (∀ x ∈ l, f x ≤ h x) → (l.map f).sum ≤ (l.map h).sum
  | [], _ => by simp
  | x :: l, hx => by
    have h1 := hx x (by simp)
    have h2 := sum_le f h l (fun y hy => hx y (by simp [hy]))
    simp only [List.map_cons, List.sum_cons]
    omega
theorem sum_set {α : Type} (f : α → Int) : ∀ (l : List α) (k : Nat) (x y : α), l[k]? = some x → ((l.set k y).map f).sum = (l.map f).sum - f x + f y
  | [], k, x, y, h => by simp at h
  | z :: l, 0, x, y, h => by
    simp at h
    subst h
    simp only [List.set_cons_zero, List.map_cons, List.sum_cons]
    omega
  | z :: l, k + 1, x, y, h => by
    have ih := sum_set f l k x y (by simpa using h)
    simp only [List.set_cons_succ, List.map_cons, List.sum_cons]
    omega
theorem rain_le {ys : List Yr} (h : ∀ y ∈ ys, y.ok = true) : rainL ys ≤ rainH ys := sum_le _ _ _ fun y hy => by
  have := Yr.ok_bd (h y hy)
  exact Int.mul_le_mul_of_nonneg_right this.2.1 this.2.2.2.1
theorem tak_le {ps : List Sp} (h : ∀ p ∈ ps, Sp.ok 0 1000000 p = true) : takL ps ≤ takH ps := sum_le _ _ _ fun p hp => (Sp.ok_bd (h p hp)).2.1
theorem tak_app (ps : List Sp) (p : Sp) : takL (ps ++ [p]) = takL ps + p.lo ∧ takH (ps ++ [p]) = takH ps + p.hi := by simp [takL, takH]
theorem rains_pump {ys : List Yr} {ps : List Sp} {p : Sp} (h : yearsOk ys (ps ++ [p]) = true) :
    yearsOk ys ps = true ∧ (srcS ys (ps ++ [p])).lo ≤ (srcS ys ps).lo ∧ (srcS ys (ps ++ [p])).hi ≤ (srcS ys ps).hi ∧ (srcS ys ps).lo ≤ (srcS ys ps).hi ∧ 0 ≤ (srcS ys ps).lo ∧ (srcS ys ps).hi ≤ 1000000 ∧
      (0 < (srcS ys (ps ++ [p])).lo → (srcS ys ps).lo < 1000000 → (srcS ys ps).lo - (srcS ys (ps ++ [p])).lo = p.hi) := by
  obtain ⟨h1, h2, h3, h4⟩ := yearsOk_parts h
  rw [List.length_append] at h2
  have h2' : ps.length ≤ 12 := by omega
  have h5 : ∀ q ∈ ps, Sp.ok 0 1000000 q = true := fun q hq => h4 q (by simp [hq])
  have hp := Sp.ok_bd (h4 p (by simp))
  have h6 := rain_le h3
  have h7 := tak_le h5
  obtain ⟨e1, e2⟩ := tak_app ps p
  refine ⟨?_, ?_⟩
  · simp only [yearsOk, Bool.and_eq_true, decide_eq_true_eq, List.all_eq_true]
    exact ⟨⟨⟨h1, h2'⟩, h3⟩, h5⟩
  · simp only [srcS, clip, flK]
    rw [e1, e2]
    generalize rainL ys = rl at *
    generalize rainH ys = rh at *
    generalize takL ps = tl at *
    generalize takH ps = th at *
    omega
theorem src_none {ps : List Sp} (h : yearsOk [] ps = true) : srcS [] ps = ⟨0, 0⟩ := by
  obtain ⟨_, _, _, h4⟩ := yearsOk_parts h
  have h1 := tak_bd h4
  have e1 : rainL [] = 0 := rfl
  have e2 : rainH [] = 0 := rfl
  simp only [srcS, clip, flK, e1, e2, Sp.mk.injEq]
  omega
theorem rains_more {ys : List Yr} {ps : List Sp} {k : Nat} {y y' : Yr} (h : yearsOk ys ps = true) (hk : ys[k]? = some y) (hw : y'.weight = y.weight) (hl : y.fell.lo ≤ y'.fell.lo) (hlh : y'.fell.lo ≤ y'.fell.hi) (hh : y'.fell.hi ≤ 10000) :
    yearsOk (ys.set k y') ps = true ∧ (srcS ys ps).lo ≤ (srcS (ys.set k y') ps).lo ∧ (y.fell.hi ≤ y'.fell.hi → (srcS ys ps).hi ≤ (srcS (ys.set k y') ps).hi) ∧ (y'.fell.hi ≤ y.fell.hi → (srcS (ys.set k y') ps).hi ≤ (srcS ys ps).hi) := by
  obtain ⟨h1, h2, h3, h4⟩ := yearsOk_parts h
  have hy := Yr.ok_bd (h3 y (List.mem_of_getElem? hk))
  have hy' : y'.ok = true := by
    simp only [Yr.ok, Sp.ok, inB, Bool.and_eq_true, decide_eq_true_eq]
    rw [hw]
    omega
  have e1 : rainL (ys.set k y') = rainL ys - y.fell.lo * y.weight + y'.fell.lo * y.weight := by unfold rainL; rw [sum_set _ ys k y y' hk, hw]
  have e2 : rainH (ys.set k y') = rainH ys - y.fell.hi * y.weight + y'.fell.hi * y.weight := by unfold rainH; rw [sum_set _ ys k y y' hk, hw]
  have m1 : y.fell.lo * y.weight ≤ y'.fell.lo * y.weight := Int.mul_le_mul_of_nonneg_right hl hy.2.2.2.1
  refine ⟨?_, ?_, fun hi => ?_, fun hi => ?_⟩
  · simp only [yearsOk, Bool.and_eq_true, decide_eq_true_eq, List.all_eq_true]
    refine ⟨⟨⟨by simpa using h1, h2⟩, fun x hx => ?_⟩, h4⟩
    rcases List.mem_or_eq_of_mem_set hx with hx | rfl
    · exact h3 x hx
    · exact hy'
  · simp only [srcS, clip, flK]
    rw [e1]
    omega
  · have m2 : y.fell.hi * y.weight ≤ y'.fell.hi * y.weight := Int.mul_le_mul_of_nonneg_right hi hy.2.2.2.1
    simp only [srcS, clip, flK]
    rw [e2]
    omega
  · have m2 : y'.fell.hi * y.weight ≤ y.fell.hi * y.weight := Int.mul_le_mul_of_nonneg_right hi hy.2.2.2.1
    simp only [srcS, clip, flK]
    rw [e2]
    omega
end Go.Proofs.Ytkmocikcohhdoaa
