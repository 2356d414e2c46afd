/- Which canals are dry: the program's reckoning is the reference's. Plain. -/
import Derived.Test.YthlnbgjlkliopaaR6
import Derived.Test.YthlnbgjlkliopaaC12
set_option linter.unusedVariables false
set_option linter.unusedSimpArgs false
namespace Go.Proofs.Ythlnbgjlkliopaa
open Go.RowKit Go.Shelf
theorem usAll_sorted {nf cyc : Int} : ∀ {last : Int} {us : List Us}, usAll nf cyc last us = true → ∀ (i j : Nat) (u v : Us), i < j → us[i]? = some u → us[j]? = some v → u.to ≤ v.frm
  | _, [], _, i, j, u, v, _, hu, _ => by simp at hu
  | last, x :: us, h, i, j, u, v, hij, hu, hv => by
    simp only [usAll, Bool.and_eq_true] at h
    obtain ⟨j, rfl⟩ : ∃ j', j = j' + 1 := ⟨j - 1, by omega⟩
    simp only [List.getElem?_cons_succ] at hv
    cases i with
    | zero =>
      simp at hu
      subst hu
      have := usAll_mem h.2 v (List.mem_of_getElem? hv)
      omega
    | succ i =>
      simp only [List.getElem?_cons_succ] at hu
      exact usAll_sorted h.2 i j u v (by omega) hu hv
theorem uses_sorted {nf days : Int} {us : List Us} (h : usesOk nf days us = true) {i j : Nat} {u v : Us} (hij : i ≤ j) (hu : us[i]? = some u) (hv : us[j]? = some v) : u.to ≤ v.to := by
  by_cases e : i = j
  · subst e; rw [hu] at hv; injection hv with hv; subst hv; omega
  · simp only [usesOk, Bool.and_eq_true] at h
    have h1 := usAll_sorted h.1 i j u v (by omega) hu hv
    have h2 := usAll_mem h.1 v (List.mem_of_getElem? hv)
    omega
theorem drySt_eq {dry : Int} {u : Us} : ∀ (p : List Int) (st : List Int × (Int → Option Int)), p.Nodup →
    (p.foldl (dryStep dry u) st).1 = st.1 ++ p.filter (fun c => decide (dry < u.frm - (st.2 c).getD 0)) ∧ ∀ c, (p.foldl (dryStep dry u) st).2 c = if c ∈ p then some u.to else st.2 c
  | [], st, _ => by simp
  | x :: p, st, hn => by
    rw [List.nodup_cons] at hn
    obtain ⟨h1, h2⟩ := drySt_eq (dry := dry) (u := u) p (dryStep dry u st x) hn.2
    have hup : ∀ c ∈ p, (dryStep dry u st x).2 c = st.2 c := fun c hc => by
      show upd st.2 x (some u.to) c = _
      unfold upd
      rw [if_neg (fun e : c = x => hn.1 (e ▸ hc))]
    constructor
    · rw [List.foldl_cons, h1]
      have hf : p.filter (fun c => decide (dry < u.frm - ((dryStep dry u st x).2 c).getD 0)) = p.filter (fun c => decide (dry < u.frm - (st.2 c).getD 0)) := List.filter_congr fun c hc => by rw [hup c hc]
      rw [hf, List.filter_cons]
      show (if dry < u.frm - (st.2 x).getD 0 then st.1 ++ [x] else st.1) ++ _ = _
      by_cases hd : dry < u.frm - (st.2 x).getD 0 <;> simp [hd]
    · intro c
      rw [List.foldl_cons, h2 c]
      by_cases hc : c ∈ p
      · simp [hc]
      · show (if c ∈ p then some u.to else upd st.2 x (some u.to) c) = _
        unfold upd
        by_cases e : c = x <;> simp [hc, e]
/-- The last of the first k uses whose path has it. -/
def lastTo (cs : List Ca) (fs : List Int) (us : List Us) (c : Int) : Nat → Option Int
  | 0 => none
  | k + 1 => match us[k]? with | some u => if c ∈ pathK cs fs u.field then some u.to else lastTo cs fs us c k | none => lastTo cs fs us c k
theorem lastTo_some {cs : List Ca} {fs : List Int} {us : List Us} {c t : Int} : ∀ {k : Nat}, lastTo cs fs us c k = some t → ∃ j u, j < k ∧ us[j]? = some u ∧ c ∈ pathK cs fs u.field ∧ u.to = t ∧ ∀ i v, j < i → i < k → us[i]? = some v → c ∉ pathK cs fs v.field
  | 0, h => by cases h
  | k + 1, h => by
    unfold lastTo at h
    cases hx : us[k]? with
    | none =>
      rw [hx] at h
      obtain ⟨j, u, h1, h2, h3, h4, h5⟩ := lastTo_some h
      refine ⟨j, u, by omega, h2, h3, h4, fun i v hi hk hv => ?_⟩
      by_cases e : i = k
      · subst e; rw [hx] at hv; cases hv
      · exact h5 i v hi (by omega) hv
    | some u =>
      rw [hx] at h
      simp only at h
      by_cases hc : c ∈ pathK cs fs u.field
      · rw [if_pos hc] at h
        injection h with h
        exact ⟨k, u, by omega, hx, hc, h, fun i v hi hk => by omega⟩
      · rw [if_neg hc] at h
        obtain ⟨j, u', h1, h2, h3, h4, h5⟩ := lastTo_some h
        refine ⟨j, u', by omega, h2, h3, h4, fun i v hi hk hv => ?_⟩
        by_cases e : i = k
        · subst e; rw [hx] at hv; injection hv with hv; subst hv; exact hc
        · exact h5 i v hi (by omega) hv
theorem lastTo_none {cs : List Ca} {fs : List Int} {us : List Us} {c : Int} : ∀ {k : Nat}, lastTo cs fs us c k = none → ∀ i v, i < k → us[i]? = some v → c ∉ pathK cs fs v.field
  | 0, _, i, v, hi, _ => by omega
  | k + 1, h, i, v, hi, hv => by
    unfold lastTo at h
    cases hx : us[k]? with
    | none =>
      rw [hx] at h
      by_cases e : i = k
      · subst e; rw [hx] at hv; cases hv
      · exact lastTo_none h i v (by omega) hv
    | some u =>
      rw [hx] at h
      simp only at h
      by_cases hc : c ∈ pathK cs fs u.field
      · rw [if_pos hc] at h; cases h
      · rw [if_neg hc] at h
        by_cases e : i = k
        · subst e; rw [hx] at hv; injection hv with hv; subst hv; exact hc
        · exact lastTo_none h i v (by omega) hv
theorem carr_last {cs : List Ca} {fs : List Int} {cyc : Int} {us : List Us} (c : Int) : ∀ k, k ≤ us.length → carr cs fs cyc us k c = (lastTo cs fs us c k).map (· - cyc)
  | 0, _ => rfl
  | k + 1, hk => by
    obtain ⟨u, hx⟩ : ∃ u, us[k]? = some u := ⟨_, List.getElem?_eq_getElem (by omega)⟩
    rw [carr_succ hx]
    unfold carrJ lastTo
    rw [hx]
    simp only [← mem_pathK]
    rw [carr_last c k (by omega)]
    split <;> rfl
theorem fK_last {cs : List Ca} {fs : List Int} {dry cyc : Int} {us : List Us} (hn : ∀ k, (pathK cs fs k).Nodup) (c : Int) : ∀ k, k ≤ us.length → fK cs fs dry cyc us k c = match lastTo cs fs us c k with | some t => some t | none => carr cs fs cyc us us.length c
  | 0, _ => rfl
  | k + 1, hk => by
    obtain ⟨u, hx⟩ : ∃ u, us[k]? = some u := ⟨_, List.getElem?_eq_getElem (by omega)⟩
    rw [fK_succ hx]
    have h := (drySt_eq (dry := dry) (u := u) (pathK cs fs u.field) ([], fK cs fs dry cyc us k) (hn _)).2 c
    unfold drySt
    rw [h]
    simp only
    rw [fK_last hn c k (by omega)]
    show _ = match (match us[k]? with | some u => if c ∈ pathK cs fs u.field then some u.to else lastTo cs fs us c k | none => lastTo cs fs us c k) with | some t => some t | none => carr cs fs cyc us us.length c
    rw [hx]
    by_cases hc : c ∈ pathK cs fs u.field <;> simp [hc]
theorem dryB_iff {cs : List Ca} {fs : List Int} {dry cyc : Int} {us : List Us} {a : Nat} {ua : Us} (ha : us[a]? = some ua) (c : Int) :
    dryB cs fs dry cyc us a c = true ↔ ∀ i u, us[i]? = some u → c ∈ pathK cs fs u.field → dry < gapR cyc a i ua u := by
  unfold dryB dryTo
  rw [ha]
  simp only [List.take_length, List.all_eq_true]
  constructor
  · intro h i u hi hc
    have := h (u, i) (by rw [List.mem_zipIdx_iff_getElem?]; exact hi)
    simpa [oneB, hc] using this
  · rintro h ⟨u, i⟩ hm
    rw [List.mem_zipIdx_iff_getElem?] at hm
    unfold oneB
    by_cases hc : c ∈ pathK cs fs u.field
    · simp [hc, h i u hm hc]
    · simp [hc]
theorem dry_eq {cs : List Ca} {fs : List Int} {dry days : Int} {nf : Int} {us : List Us} (hok : netOk cs fs dry days = true) (huo : usesOk nf days us = true) (a : Nat) : dryL cs fs dry (days * 1440) us a = dryR cs fs dry (days * 1440) us a := by
  have hn : ∀ k, (pathK cs fs k).Nodup := fun k => (pathK_sorted (netOk_frm hok) k).imp (fun h => by omega)
  unfold dryL dryR
  cases ha : us[a]? with
  | none => rfl
  | some ua =>
    simp only
    have hal := (List.getElem?_eq_some_iff.1 ha).1
    unfold drySt
    rw [(drySt_eq (dry := dry) (u := ua) (pathK cs fs ua.field) ([], fK cs fs dry (days * 1440) us a) (hn _)).1]
    simp only [List.nil_append]
    refine List.filter_congr fun c hc => ?_
    have hia := usesOk_mem huo (List.mem_of_getElem? ha)
    rw [Bool.eq_iff_iff, dryB_iff ha, decide_eq_true_eq, fK_last hn c a (by omega)]
    cases hl : lastTo cs fs us c a with
    | some t =>
      simp only [Option.getD_some]
      obtain ⟨j, u, h1, h2, h3, h4, h5⟩ := lastTo_some hl
      have hju := usesOk_mem huo (List.mem_of_getElem? h2)
      constructor
      · intro h i v hv hcv
        have hiv := usesOk_mem huo (List.mem_of_getElem? hv)
        unfold gapR
        by_cases hai : a ≤ i
        · rw [if_pos hai]; omega
        · rw [if_neg hai]
          have : ¬ j < i := fun hji => h5 i v hji (by omega) hv hcv
          have := uses_sorted huo (by omega : i ≤ j) hv h2
          omega
      · intro h
        have := h j u h2 h3
        unfold gapR at this
        rw [if_neg (by omega)] at this
        omega
    | none =>
      simp only
      have hno := lastTo_none hl
      rw [carr_last c us.length (Nat.le_refl _)]
      cases hl2 : lastTo cs fs us c us.length with
      | none => exact absurd hc (lastTo_none hl2 a ua hal ha)
      | some t =>
        simp only [Option.map_some, Option.getD_some]
        obtain ⟨j, u, h1, h2, h3, h4, h5⟩ := lastTo_some hl2
        have hja : a ≤ j := by
          by_cases e : a ≤ j
          · exact e
          · exact absurd h3 (hno j u (by omega) h2)
        constructor
        · intro h i v hv hcv
          have hai : a ≤ i := by
            by_cases e : a ≤ i
            · exact e
            · exact absurd hcv (hno i v (by omega) hv)
          unfold gapR
          rw [if_pos hai]
          have : ¬ j < i := fun hji => h5 i v hji (List.getElem?_eq_some_iff.1 hv).1 hv hcv
          have := uses_sorted huo (by omega : i ≤ j) hv h2
          omega
        · intro h
          have := h j u h2 h3
          unfold gapR at this
          rw [if_pos hja] at this
          omega
theorem dries_eq (cs : List Ca) (fs : List Int) (dry days : Int) (us : List Us) : driesS cs fs dry days us = rDriesS cs fs dry days us := by
  unfold driesS rDriesS
  split
  · rename_i hok
    split
    · rename_i huo
      congr 1
      exact List.map_congr_left fun a _ => dry_eq hok huo a
    · rfl
  · rfl
end Go.Proofs.Ythlnbgjlkliopaa
