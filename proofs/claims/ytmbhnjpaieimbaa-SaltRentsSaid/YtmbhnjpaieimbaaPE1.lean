/- What is easier costs no more: a rent more, greater minutes, lesser needs, cheaper minutes (plain). -/
import Derived.Test.YtmbhnjpaieimbaaPC3
set_option linter.unusedVariables false
set_option linter.unusedSimpArgs false
namespace Go.Proofs.Ytmbhnjpaieimbaa
open Bo
theorem plan_ok_iff {ns : List Int} {rs : List Rr} (h : RentsOk ns rs) : ((planF ns rs).2.2 = 0 ∧ (boR ns rs).Feas (capsR rs)) ∨ ((planF ns rs).2.2 = 63 ∧ ¬ (boR ns rs).Feas (capsR rs)) := by
  by_cases hf : (boR ns rs).Feas (capsR rs)
  · obtain ⟨p, c, e, _⟩ := plan_planned h hf
    exact .inl ⟨by rw [e], hf⟩
  · exact .inr ⟨by rw [plan_none h hf], hf⟩
/-- Whatever serves the second, serves the first, in some other way. -/
def Easier (ns : List Int) (rs : List Rr) (ns' : List Int) (rs' : List Rr) : Prop :=
  ∀ x, (boR ns' rs').Feas x → (∀ i, i < rs'.length → 0 ≤ x i) → (∀ i, i < rs'.length → x i ≤ capsR rs' i) → ∃ y, (boR ns rs).Feas y ∧ (∀ i, i < rs.length → 0 ≤ y i) ∧ (∀ i, i < rs.length → y i ≤ capsR rs i) ∧ (boR ns rs).cost y ≤ (boR ns' rs').cost x
theorem boR_r {ns : List Int} {rs : List Rr} : (boR ns rs).r = rs.length := List.length_map ..
theorem plan_easier {ns ns' : List Int} {rs rs' : List Rr} (h : RentsOk ns rs) (h' : RentsOk ns' rs') (hE : Easier ns rs ns' rs') (h0 : (planF ns' rs').2.2 = 0) : (planF ns rs).2.2 = 0 ∧ (planF ns rs).2.1 ≤ (planF ns' rs').2.1 := by
  have hf' : (boR ns' rs').Feas (capsR rs') := by
    rcases plan_ok_iff h' with h1 | h1
    · exact h1.2
    · have := h1.1; omega
  obtain ⟨p', c', e', _, _, M'⟩ := plan_planned h' hf'
  obtain ⟨x, a1, a2, a3, a4⟩ := M'.is
  rw [boR_r] at a2 a3
  obtain ⟨y, b1, b2, b3, b4⟩ := hE x a1 a2 a3
  have hf : (boR ns rs).Feas (capsR rs) := fun S hS => Int.le_trans (b1 S hS) ((boR ns rs).there_le (x := y) (y := capsR rs) (by rw [boR_r]; exact b3) S)
  obtain ⟨p, c, e, _, _, M⟩ := plan_planned h hf
  rw [e, e']
  have := M.le y b1 (by rw [boR_r]; exact b2) (by rw [boR_r]; exact b3)
  exact ⟨rfl, by show c ≤ c'; omega⟩
theorem capsR_at {rs : List Rr} (h8 : rs.length ≤ 8) {i : Nat} (hi : i < rs.length) : capsR rs i = miAt rs i := hsTo_get rs hi h8
theorem boR_st {ns : List Int} {rs : List Rr} (h8 : rs.length ≤ 8) {i : Nat} (hi : i < rs.length) : (boR ns rs).st i = bitsF (fsAt rs i) := ssTo_get rs hi h8
theorem boR_pr {ns : List Int} {rs : List Rr} (i : Nat) : (boR ns rs).pr i = prAt rs i := pr_get rs i
theorem boR_on {ns ns' : List Int} {rs rs' : List Rr} (h8 : rs.length ≤ 8) (h8' : rs'.length ≤ 8) {i : Nat} (hi : i < rs.length) (hi' : i < rs'.length) (e : fsAt rs i = fsAt rs' i) (S : Nat) : (boR ns rs).on S i = (boR ns' rs').on S i := by
  unfold Bo.on; rw [boR_st h8 hi, boR_st h8' hi', e]
/-- A rent more. -/
theorem easier_more {ns : List Int} {rs : List Rr} {q : Rr} (h : RentsOk ns (rs ++ [q])) : Easier ns (rs ++ [q]) ns rs := fun x xf x0 xle => by
  have hl : (rs ++ [q]).length = rs.length + 1 := by simp
  have h8 : rs.length + 1 ≤ 8 := by rw [← hl]; exact h.rl
  have ea : ∀ i, i < rs.length → (rs ++ [q])[i]? = rs[i]? := fun i hi => List.getElem?_append_left hi
  have em : ∀ i, i < rs.length → miAt (rs ++ [q]) i = miAt rs i := fun i hi => by unfold miAt; rw [ea i hi]
  have ep : ∀ i, i < rs.length → prAt (rs ++ [q]) i = prAt rs i := fun i hi => by unfold prAt; rw [ea i hi]
  have ef : ∀ i, i < rs.length → fsAt (rs ++ [q]) i = fsAt rs i := fun i hi => by unfold fsAt; rw [ea i hi]
  have hc0 : 0 ≤ miAt (rs ++ [q]) rs.length := by
    have h1 := getD_mem (p := fun x : Int => 0 ≤ x ∧ x ≤ 23040) (d := 0) (hsTo_ok h.rt) (by decide) rs.length
    rw [hsTo_get (rs ++ [q]) (by rw [hl]; omega) h.rl] at h1
    exact h1.1
  refine ⟨fun i => if i < rs.length then x i else 0, fun S hS => ?_, fun i hi => ?_, fun i hi => ?_, ?_⟩
  · have h1 := xf S hS
    have h2 : (boR ns (rs ++ [q])).there (fun i => if i < rs.length then x i else 0) S = (boR ns rs).there x S := by
      unfold Bo.there
      rw [boR_r, boR_r, hl]
      show sumTo _ rs.length + _ = _
      rw [sumTo_congr (g := fun i => if (boR ns rs).on S i = true then x i else 0) (fun i hi => by simp only [if_pos hi, boR_on (ns := ns) (ns' := ns) h.rl (by omega) (by rw [hl]; omega) hi (ef i hi) S])]
      simp
    rw [h2]
    exact h1
  · by_cases hlt : i < rs.length
    · simp only [if_pos hlt]; exact x0 i hlt
    · simp only [if_neg hlt]; exact Int.le_refl _
  · rw [capsR_at h.rl hi]
    by_cases hlt : i < rs.length
    · simp only [if_pos hlt]
      have := xle i hlt
      rw [capsR_at (by omega) hlt] at this
      rw [em i hlt]; exact this
    · simp only [if_neg hlt]
      obtain rfl : i = rs.length := by rw [hl] at hi; omega
      exact hc0
  · unfold Bo.cost
    rw [boR_r, boR_r, hl]
    show sumTo _ rs.length + _ ≤ _
    rw [sumTo_congr (g := fun i => x i * (boR ns rs).pr i) (fun i hi => by simp only [if_pos hi]; rw [boR_pr, boR_pr, ep i hi])]
    simp
/-- Lesser needs. -/
theorem easier_need {ns ns' : List Int} {rs : List Rr} (hl : ns'.length = ns.length) (hle : ∀ k, ns.getD k 0 ≤ ns'.getD k 0) : Easier ns rs ns' rs := fun x xf x0 xle => by
  refine ⟨x, fun S hS => ?_, x0, xle, Int.le_refl _⟩
  have h1 := xf S (by show S < 2 ^ ns'.length; rw [hl]; exact hS)
  have h2 : (boR ns rs).need S ≤ (boR ns' rs).need S := by
    show sumTo _ ns.length ≤ sumTo _ ns'.length
    rw [hl]
    refine sumTo_le fun k _ => ?_
    show (if S.testBit k = true then ns.getD k 0 else 0) ≤ (if S.testBit k = true then ns'.getD k 0 else 0)
    have := hle k
    split <;> omega
  exact Int.le_trans h2 h1
/-- Dearer minutes, the same rents otherwise. -/
structure Dearer (rs rs' : List Rr) : Prop where
  len : rs'.length = rs.length
  mi : ∀ j, miAt rs' j = miAt rs j
  fs : ∀ j, fsAt rs' j = fsAt rs j
  pr : ∀ j, prAt rs j ≤ prAt rs' j
theorem Dearer.feas {ns : List Int} {rs rs' : List Rr} (h : Dearer rs rs') (h8 : rs.length ≤ 8) (x : Nat → Int) : (boR ns rs').Feas x ↔ (boR ns rs).Feas x := by
  have e : ∀ S, (boR ns rs').there x S = (boR ns rs).there x S := fun S => by
    unfold Bo.there
    rw [boR_r, boR_r, h.len]
    exact sumTo_congr fun i hi => by rw [boR_on (ns := ns) (ns' := ns) (by rw [h.len]; exact h8) h8 (by rw [h.len]; exact hi) hi (h.fs i) S]
  constructor <;> intro hf S hS
  · have := hf S hS; rw [e] at this; exact this
  · rw [e]; exact hf S hS
theorem Dearer.caps {rs rs' : List Rr} (h : Dearer rs rs') (h8 : rs.length ≤ 8) {i : Nat} (hi : i < rs.length) : capsR rs' i = capsR rs i := by
  rw [capsR_at h8 hi, capsR_at (by rw [h.len]; exact h8) (by rw [h.len]; exact hi), h.mi]
theorem Dearer.easier {ns : List Int} {rs rs' : List Rr} (h : Dearer rs rs') (h8 : rs.length ≤ 8) : Easier ns rs ns rs' := fun x xf x0 xle => by
  rw [h.len] at x0 xle
  refine ⟨x, (h.feas h8 x).1 xf, x0, fun i hi => by rw [← h.caps h8 hi]; exact xle i hi, ?_⟩
  unfold Bo.cost
  rw [boR_r, boR_r, h.len]
  refine sumTo_le fun i hi => ?_
  rw [boR_pr, boR_pr]
  exact Int.mul_le_mul_of_nonneg_left (h.pr i) (x0 i hi)
theorem Dearer.same {ns : List Int} {rs rs' : List Rr} (h : Dearer rs rs') (hr : RentsOk ns rs) (hr' : RentsOk ns rs') : (planF ns rs').2.2 = (planF ns rs).2.2 := by
  have e : (boR ns rs').Feas (capsR rs') ↔ (boR ns rs).Feas (capsR rs) := by
    rw [h.feas hr.rl]
    have hc : ∀ S, (boR ns rs).there (capsR rs') S = (boR ns rs).there (capsR rs) S := fun S => by
      unfold Bo.there
      rw [boR_r]
      exact sumTo_congr fun i hi => by rw [h.caps hr.rl hi]
    constructor <;> intro hf S hS
    · have := hf S hS; rw [hc] at this; exact this
    · rw [hc]; exact hf S hS
  rcases plan_ok_iff hr with h1 | h1 <;> rcases plan_ok_iff hr' with h2 | h2
  · rw [h1.1, h2.1]
  · exact absurd (e.2 h1.2) h2.2
  · exact absurd (e.1 h2.2) h1.2
  · rw [h1.1, h2.1]
theorem leftTo_mi {rs rs' : List Rr} (h : ∀ j, miAt rs' j = miAt rs j) : ∀ k, leftTo rs' k = leftTo rs k
  | 0 => rfl
  | k + 1 => by unfold leftTo; rw [leftTo_mi h k, h]
theorem Dearer.ok {ns : List Int} {rs rs' : List Rr} (h : Dearer rs rs') (hr : RentsOk ns rs) (hp : ∀ j, j < rs.length → prAt rs' j ≤ 100000) : RentsOk ns rs' := by
  have ht : ∀ k, k ≤ rs.length → rentTo ns.length rs' k = true := fun k => by
    induction k with
    | zero => intro _; rfl
    | succ k ih =>
      intro hk
      have h1 := rentTo_le (j := k + 1) hr.rt hk
      rw [rentTo, Bool.and_eq_true, Bool.and_eq_true, Bool.and_eq_true] at h1
      rw [rentTo, ih (by omega), leftTo_mi h.mi, h.mi, h.fs, h1.2.1, h1.2.2.2]
      have h2 := h1.2.2.1
      simp [inB] at h2
      have h3 := h.pr k
      have h4 := hp k (by omega)
      simp [inB]
      omega
  refine RentsOk.of ?_
  have h1 : anyOut 0 23040 ns = false := by
    unfold anyOut
    rw [List.any_eq_false]
    intro x hx
    have := hr.n x hx
    simp [outB]; omega
  have := ht rs.length (Nat.le_refl _)
  simp [rentsOk, hr.nl, hr.rl, h1, h.len, this]
theorem dearer_set {rs : List Rr} {i : Nat} {r : Rr} {p : Int} (hr : rs[i]? = some r) (hp : r.pr ≤ p) : Dearer rs (rs.set i { r with pr := p }) := by
  have hi : i < rs.length := (List.getElem?_eq_some_iff.1 hr).1
  have e1 : (rs.set i { r with pr := p })[i]? = some { r with pr := p } := List.getElem?_set_self hi
  have e2 : ∀ j, j ≠ i → (rs.set i { r with pr := p })[j]? = rs[j]? := fun j hj => List.getElem?_set_ne (fun e => hj e.symm)
  refine ⟨by rw [List.length_set], fun j => ?_, fun j => ?_, fun j => ?_⟩
  · by_cases hj : j = i
    · subst hj; unfold miAt; rw [e1, hr]; rfl
    · unfold miAt; rw [e2 j hj]
  · by_cases hj : j = i
    · subst hj; unfold fsAt; rw [e1, hr]; rfl
    · unfold fsAt; rw [e2 j hj]
  · by_cases hj : j = i
    · subst hj; unfold prAt; rw [e1, hr]; exact hp
    · unfold prAt; rw [e2 j hj]; exact Int.le_refl _
end Go.Proofs.Ytmbhnjpaieimbaa
