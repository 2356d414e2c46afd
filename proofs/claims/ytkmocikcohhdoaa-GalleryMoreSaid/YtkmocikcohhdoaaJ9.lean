/- GalleryFall, plain: the reach that fell is suspected, and each one that is suspected may be it. No program is named here. -/
import Derived.Test.YtkmocikcohhdoaaJA
set_option linter.unusedVariables false
set_option linter.unusedSimpArgs false
namespace Go.Proofs.Ytkmocikcohhdoaa
open Go.RowKit Go.Shelf
theorem fine_bad {m : Int} {s : Sp} (h : s.fine m) : Sp.bad m s = false := by
  obtain ⟨h1, h2, h3⟩ := h
  simp only [Sp.bad, Bool.or_eq_false_iff, decide_eq_false_iff_not]
  omega
theorem gOk_of {g : List Rc} (h1 : 1 ≤ g.length) (h2 : g.length ≤ 12) (h : ∀ r ∈ g, r.fine) : gOk g = true := by
  unfold gOk
  rw [Bool.and_eq_true, Bool.not_eq_true', List.any_eq_false]
  refine ⟨by unfold inB; simp; omega, fun r hr => ?_⟩
  obtain ⟨a, b, c⟩ := h r hr
  simp [Rc.bad, anyBad, fine_bad a, fine_bad b, fine_bad c]
theorem gOk_len {g : List Rc} (h : gOk g = true) : 1 ≤ g.length ∧ g.length ≤ 12 := by
  unfold gOk inB at h
  simp only [Bool.and_eq_true, decide_eq_true_eq] at h
  omega
section
variable {g : List Rc} {s t : Sp} {l : List Ga} {n k : Nat} {fs ls gs : List Int}
theorem fallS_ok (hg : gOk g = true) (ht : Sp.ok 0 1000000 t = true) (i : Nat) : gOk (fallS g i t) = true := by
  obtain ⟨h1, h2⟩ := gOk_len hg
  exact gOk_of (by rw [fallS_len]; exact h1) (by rw [fallS_len]; exact h2) (fallS_fine (gOk_fine hg) (okS_fine ht))
theorem seen_ok (hn : n = g.length) (hl : SeenP n fs l) : ∀ x ∈ l, (0 ≤ x.shaft ∧ x.shaft ≤ g.length) ∧ x.flow.fine 13000000 := fun x hx => ⟨by rw [← hn]; exact (hl x hx).1, (hl x hx).2.1⟩
/-- The errors of Flows, without a fall and with one. -/
theorem fl_err (hg : gOk g = true) (hs : Sp.ok 0 1000000 s = true) (h30 : l.length ≤ 30) (hv : ∀ x ∈ l, (0 ≤ x.shaft ∧ x.shaft ≤ g.length) ∧ x.flow.fine 13000000) : flErr g s l = if (fitS g l s).isSome then 0 else 24 := by
  unfold flErr; rw [if_pos (enter_ok hg hs h30 hv)]
theorem fall_err (hg : gOk g = true) (hs : Sp.ok 0 1000000 s = true) (ht : Sp.ok 0 1000000 t = true) (h30 : l.length ≤ 30) (hv : ∀ x ∈ l, (0 ≤ x.shaft ∧ x.shaft ≤ g.length) ∧ x.flow.fine 13000000) (i : Nat) :
    flErr (fallS g i t) s l = if (fitF g s l t i).isSome then 0 else 24 :=
  fl_err (fallS_ok hg ht i) hs h30 (by rw [fallS_len]; exact hv)
/-- What flows with the fall in reach k fits. -/
theorem fall_fits (hg : gOk g = true) (ht : Sp.ok 0 1000000 t = true) (hr : RunP (fallS g k t) s fs ls gs n) (hn : n = g.length) (hl : SeenP n fs l) :
    ∃ F, fitF g s l t k = some F ∧ ∀ j, j ≤ n → inS (fs.getD j 0) (F.getD j allS) := by
  have hn' : n = (fallS g k t).length := by rw [fallS_len]; exact hn
  obtain ⟨F, hF, hin⟩ := feas_in (fallS g k t) (rdS n l) s _ (fallS_fine (gOk_fine hg) (okS_fine ht)) (run_feas hr hn' hl)
  refine ⟨F, ?_, fun j hj => hin j (by omega)⟩
  unfold fitF fitS
  rw [← hn']
  exact hF
theorem fall_told (hg : gOk g = true) (hs : Sp.ok 0 1000000 s = true) (ht : Sp.ok 0 1000000 t = true) (hk : k < g.length) (h30 : l.length ≤ 30) (hv : ∀ x ∈ l, (0 ≤ x.shaft ∧ x.shaft ≤ g.length) ∧ x.flow.fine 13000000) (hf : (fitF g s l t k).isSome = true) :
    falE g s l t = 0 ∧ falL g s l t = (falN g s l t g.length).map Int.ofNat ∧ falW g s l t = (fitS g l s).isSome ∧ 1 ≤ (falN g s l t g.length).length := by
  have he := enter_ok (l := l) hg hs h30 hv
  have hm : k ∈ falN g s l t g.length := mem_falN.2 ⟨hk, hf⟩
  have hne : falN g s l t g.length ≠ [] := fun e => by rw [e] at hm; cases hm
  have hE : falE g s l t = 0 := by unfold falE; rw [if_pos he, if_pos ht, if_neg hne]
  exact ⟨hE, by unfold falL; rw [if_pos hE], by unfold falW; rw [if_pos hE], by
    cases h : falN g s l t g.length with
    | nil => exact absurd h hne
    | cons a b => simp⟩
theorem fal_get {m j : Nat} {x : Int} (h : ((falN g s l t m).map Int.ofNat)[j]? = some x) : ∃ i : Nat, x = (i : Int) ∧ i < m ∧ (fitF g s l t i).isSome = true := by
  rw [List.getElem?_map] at h
  obtain ⟨i, hi, rfl⟩ := Option.map_eq_some_iff.1 h
  obtain ⟨h1, h2⟩ := mem_falN.1 (List.mem_of_getElem? hi)
  exact ⟨i, rfl, h1, h2⟩
theorem fal_up {m j : Nat} {x y : Int} (h1 : ((falN g s l t m).map Int.ofNat)[j]? = some x) (h2 : ((falN g s l t m).map Int.ofNat)[j + 1]? = some y) : x < y := by
  have hp : ((falN g s l t m).map Int.ofNat).Pairwise (· < ·) := by
    rw [List.pairwise_map]
    refine List.Pairwise.imp ?_ (List.Pairwise.filter _ List.pairwise_lt_range)
    intro a b hab
    exact Int.ofNat_lt.2 hab
  obtain ⟨ha, rfl⟩ := List.getElem?_eq_some_iff.1 h1
  obtain ⟨hb, rfl⟩ := List.getElem?_eq_some_iff.1 h2
  exact List.pairwise_iff_getElem.1 hp j (j + 1) ha hb (by omega)
/-- Those that are suspected, as a set, as far as they have been looked at. -/
def suspT (g : List Rc) (s : Sp) (l : List Ga) (t : Sp) (m j : Nat) (x : Int) : Bool := decide (x ∈ ((falN g s l t m).map Int.ofNat).take j)
theorem susp_zero (m : Nat) (x : Int) : suspT g s l t m 0 x = false := by simp [suspT]
theorem susp_succ {m j : Nat} {y : Int} (h : ((falN g s l t m).map Int.ofNat)[j]? = some y) (x : Int) : suspT g s l t m (j + 1) x = if x = y then true else suspT g s l t m j x := by
  unfold suspT
  generalize (falN g s l t m).map Int.ofNat = L at *
  obtain ⟨hj, rfl⟩ := List.getElem?_eq_some_iff.1 h
  rw [List.take_succ_eq_append_getElem hj]
  by_cases e : x = L[j]
  · rw [if_pos e, decide_eq_true_iff, List.mem_append, List.mem_singleton]
    exact .inr e
  · rw [if_neg e, decide_eq_decide, List.mem_append, List.mem_singleton]
    exact ⟨fun h => h.resolve_right e, .inl⟩
theorem susp_all {m j i : Nat} (hj : (falN g s l t m).length ≤ j) (hi : i < m) : suspT g s l t m j (i : Int) = (fitF g s l t i).isSome := by
  unfold suspT
  rw [List.take_of_length_le (by rw [List.length_map]; exact hj), Bool.eq_iff_iff, decide_eq_true_iff]
  constructor
  · intro h
    obtain ⟨q, hq, e⟩ := List.mem_map.1 h
    have e' : q = i := Int.ofNat.inj e
    subst e'
    exact (mem_falN.1 hq).2
  · intro h
    exact List.mem_map.2 ⟨i, mem_falN.2 ⟨hi, h⟩, rfl⟩
end
end Go.Proofs.Ytkmocikcohhdoaa
