/- Which canals are dry: as the program reckons it, plain. -/
import Derived.Test.YthlnbgjlkliopaaC7
import Derived.Test.YthlnbgjlkliopaaMap
set_option linter.unusedVariables false
set_option linter.unusedSimpArgs false
namespace Go.Proofs.Ythlnbgjlkliopaa
open Go.RowKit Go.Shelf
theorem usAll_mem {nf cyc : Int} : ∀ {last : Int} {us : List Us}, usAll nf cyc last us = true → ∀ u ∈ us, (0 ≤ u.field ∧ u.field < nf) ∧ last ≤ u.frm ∧ u.frm < u.to ∧ u.to ≤ cyc
  | _, [], _, u, hu => by simp at hu
  | last, v :: us, h, u, hu => by
    simp only [usAll, usOk, Bool.and_eq_true, decide_eq_true_eq, Bool.not_eq_true', decide_eq_false_iff_not] at h
    obtain ⟨⟨⟨h1, h2⟩, h3, h4, h5⟩, h6⟩ := h
    rcases List.mem_cons.1 hu with rfl | hu
    · omega
    · have := usAll_mem h6 u hu
      omega
theorem usesOk_mem {nf days : Int} {us : List Us} (h : usesOk nf days us = true) {u : Us} (hu : u ∈ us) : (0 ≤ u.field ∧ u.field < nf) ∧ 0 ≤ u.frm ∧ u.frm < u.to ∧ u.to ≤ days * 1440 := by
  simp only [usesOk, Bool.and_eq_true] at h
  exact usAll_mem h.1 u hu
theorem usesOk_len {nf days : Int} {us : List Us} (h : usesOk nf days us = true) : us.length ≤ 60 := by
  simp only [usesOk, Bool.and_eq_true, decide_eq_true_eq] at h
  exact h.2
/-- When a canal carried water last: the first round. -/
def carrJ (l : List Int) (v : Int) (f : Int → Option Int) (c : Int) : Option Int := if c ∈ l then some v else f c
def carrU (cs : List Ca) (fs : List Int) (cyc : Int) (f : Int → Option Int) (u : Us) : Int → Option Int := carrJ (upK cs fs u.field) (u.to - cyc) f
def carr (cs : List Ca) (fs : List Int) (cyc : Int) (us : List Us) (k : Nat) : Int → Option Int := (us.take k).foldl (carrU cs fs cyc) (fun _ => none)
theorem carrJ_nil (v : Int) (f : Int → Option Int) (c : Int) : carrJ [] v f c = f c := by simp [carrJ]
theorem carrJ_snoc (l : List Int) (x v : Int) (f : Int → Option Int) (c : Int) : carrJ (l ++ [x]) v f c = upd (carrJ l v f) x (some v) c := by
  unfold carrJ upd
  by_cases e : c = x <;> simp [e]
theorem carr_succ {cs : List Ca} {fs : List Int} {cyc : Int} {us : List Us} {k : Nat} {u : Us} (hx : us[k]? = some u) : carr cs fs cyc us (k + 1) = carrJ (upK cs fs u.field) (u.to - cyc) (carr cs fs cyc us k) := by
  unfold carr
  rw [take_snoc hx, List.foldl_append]
  rfl
/-- One canal of a path: is it dry, and it carries water now. -/
def dryStep (dry : Int) (u : Us) (st : List Int × (Int → Option Int)) (c : Int) : List Int × (Int → Option Int) := (if dry < u.frm - (st.2 c).getD 0 then st.1 ++ [c] else st.1, upd st.2 c (some u.to))
def drySt (dry : Int) (u : Us) (f : Int → Option Int) (p : List Int) : List Int × (Int → Option Int) := p.foldl (dryStep dry u) ([], f)
def fK (cs : List Ca) (fs : List Int) (dry cyc : Int) (us : List Us) (k : Nat) : Int → Option Int := (us.take k).foldl (fun f u => (drySt dry u f (pathK cs fs u.field)).2) (carr cs fs cyc us us.length)
def dryL (cs : List Ca) (fs : List Int) (dry cyc : Int) (us : List Us) (k : Nat) : List Int := match us[k]? with | some u => (drySt dry u (fK cs fs dry cyc us k) (pathK cs fs u.field)).1 | none => []
theorem fK_succ {cs : List Ca} {fs : List Int} {dry cyc : Int} {us : List Us} {k : Nat} {u : Us} (hx : us[k]? = some u) : fK cs fs dry cyc us (k + 1) = (drySt dry u (fK cs fs dry cyc us k) (pathK cs fs u.field)).2 := by
  unfold fK
  rw [take_snoc hx, List.foldl_append]
  rfl
theorem drySt_snoc {dry : Int} {u : Us} {f : Int → Option Int} {p : List Int} {k : Nat} {c : Int} (hx : p[k]? = some c) : drySt dry u f (p.take (k + 1)) = dryStep dry u (drySt dry u f (p.take k)) c := by
  unfold drySt
  rw [take_snoc hx, List.foldl_append]
  rfl
theorem drySt_len (dry : Int) (u : Us) (f : Int → Option Int) (p : List Int) : (drySt dry u f p).1.length ≤ p.length := by
  unfold drySt
  have : ∀ (p : List Int) (st : List Int × (Int → Option Int)), (p.foldl (dryStep dry u) st).1.length ≤ st.1.length + p.length := by
    intro p
    induction p with
    | nil => intro st; simp
    | cons c p ih =>
      intro st
      have := ih (dryStep dry u st c)
      have h2 : (dryStep dry u st c).1.length ≤ st.1.length + 1 := by unfold dryStep; split <;> simp
      simp only [List.foldl_cons, List.length_cons]
      omega
  simpa using this p ([], f)
/-- Times within a cycle. -/
def timesIn (f : Int → Option Int) : Prop := ∀ c x, f c = some x → -23040 ≤ x ∧ x ≤ 23040
theorem timesIn_none : timesIn (fun _ => none) := fun c x h => by cases h
theorem timesIn_upd {f : Int → Option Int} (h : timesIn f) {k v : Int} (hv : -23040 ≤ v ∧ v ≤ 23040) : timesIn (upd f k (some v)) := fun c x hx => by
  unfold upd at hx
  split at hx
  · injection hx with hx; subst hx; exact hv
  · exact h c x hx
theorem timesIn_carrJ {f : Int → Option Int} (h : timesIn f) {l : List Int} {v : Int} (hv : -23040 ≤ v ∧ v ≤ 23040) : timesIn (carrJ l v f) := fun c x hx => by
  unfold carrJ at hx
  split at hx
  · injection hx with hx; subst hx; exact hv
  · exact h c x hx
theorem timesIn_get {f : Int → Option Int} (h : timesIn f) (c : Int) : -23040 ≤ (f c).getD 0 ∧ (f c).getD 0 ≤ 23040 := by
  cases e : f c with
  | none => simp
  | some x => simpa using h c x e
theorem timesIn_carr {nf days : Int} {us : List Us} (hu : usesOk nf days us = true) (hd : 1 ≤ days ∧ days ≤ 16) (cs : List Ca) (fs : List Int) : ∀ k, timesIn (carr cs fs (days * 1440) us k)
  | 0 => timesIn_none
  | k + 1 => by
    cases hx : us[k]? with
    | none =>
      have : us.length ≤ k := List.getElem?_eq_none_iff.1 hx
      have h1 := timesIn_carr hu hd cs fs k
      unfold carr at h1 ⊢
      rwa [List.take_of_length_le (by omega), ← List.take_of_length_le this]
    | some u =>
      rw [carr_succ hx]
      have := usesOk_mem hu (List.mem_of_getElem? hx)
      exact timesIn_carrJ (timesIn_carr hu hd cs fs k) (by omega)
theorem timesIn_drySt {u : Us} (hu : -23040 ≤ u.to ∧ u.to ≤ 23040) (dry : Int) : ∀ (p : List Int) (st : List Int × (Int → Option Int)), timesIn st.2 → timesIn (p.foldl (dryStep dry u) st).2
  | [], st, h => h
  | c :: p, st, h => timesIn_drySt hu dry p (dryStep dry u st c) (timesIn_upd h hu)
theorem timesIn_fK {nf days : Int} {us : List Us} (hu : usesOk nf days us = true) (hd : 1 ≤ days ∧ days ≤ 16) (cs : List Ca) (fs : List Int) (dry : Int) : ∀ k, timesIn (fK cs fs dry (days * 1440) us k)
  | 0 => timesIn_carr hu hd cs fs _
  | k + 1 => by
    cases hx : us[k]? with
    | none =>
      have : us.length ≤ k := List.getElem?_eq_none_iff.1 hx
      have h1 := timesIn_fK hu hd cs fs dry k
      unfold fK at h1 ⊢
      rw [List.take_of_length_le (by omega : us.length ≤ k + 1)]
      rwa [List.take_of_length_le this] at h1
    | some u =>
      rw [fK_succ hx]
      have := usesOk_mem hu (List.mem_of_getElem? hx)
      exact timesIn_drySt (by omega) dry _ _ (timesIn_fK hu hd cs fs dry k)
end Go.Proofs.Ythlnbgjlkliopaa
