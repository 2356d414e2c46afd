/- From the minutes to the salt, in plain words: uses one turn after the other give each field what its minutes bring at the least; and more water than is needed leaves no more salt. -/
import Derived.Test.YtmbhnjpaieimbaaW8
import Derived.Test.YtmbhnjpaieimbaaS10
set_option linter.unusedVariables false
set_option linter.unusedSimpArgs false
namespace Go.Proofs.Ytmbhnjpaieimbaa
/-! ### water -/
theorem wkAt_ge {cs : List Ca} {fs : List Int} {dry days : Int} (hok : netOk cs fs dry days = true) (dr : List Int) (c : Int) {v v' : Int} (h : v' ≤ v) : (goF (wkT cs c) ⟨v', v'⟩).lo ≤ (goF (wkAt cs dr c) ⟨v, v⟩).lo := by
  have hw := wkT_wf hok c
  have key : (wkAt cs dr c).thr = (wkT cs c).thr ∧ (wkAt cs dr c).fill.hi ≤ (wkT cs c).fill.hi := by
    unfold wkAt wkT at *
    cases hc : cs[c.toNat]? with
    | none => exact ⟨rfl, Int.le_refl _⟩
    | some ca =>
      rw [hc] at hw
      refine ⟨rfl, ?_⟩
      by_cases hd : c ∈ dr
      · rw [decide_eq_true hd]; exact Int.le_refl _
      · rw [decide_eq_false hd]; exact hw.2.1.1
  show downF v' _ _ ≤ downF v _ _
  rw [key.1]
  unfold downF
  exact Int.ediv_le_ediv (by omega) (Int.mul_le_mul_of_nonneg_right (by omega) hw.2.2.1.1)
theorem pathW_ge {cs : List Ca} {fs : List Int} {dry days : Int} (hok : netOk cs fs dry days = true) (dr : List Int) : ∀ (p : List Int) (lost : List Sp) (v : Sp) (v' : Int), v' ≤ v.lo → getK cs p v' ≤ (pathW cs dr p lost v).2.lo
  | [], _, _, _, h => h
  | c :: p, lost, v, v', h => by
    have h1 : pathW cs dr (c :: p) lost v = pathW cs dr p (canalW cs dr (lost, v) c).1 (canalW cs dr (lost, v) c).2 := rfl
    have h2 : getK cs (c :: p) v' = getK cs p (goF (wkT cs c) ⟨v', v'⟩).lo := rfl
    rw [h1, h2]
    exact pathW_ge hok dr p _ _ _ (wkAt_ge hok dr c h)
theorem getK_nul {cs : List Ca} {fs : List Int} {dry days : Int} (hok : netOk cs fs dry days = true) : ∀ p : List Int, getK cs p 0 = 0
  | [] => rfl
  | c :: p => by
    have h2 : getK cs (c :: p) 0 = getK cs p (goF (wkT cs c) ⟨0, 0⟩).lo := rfl
    have hw := wkT_wf hok c
    have h3 : (goF (wkT cs c) ⟨0, 0⟩).lo = 0 := by
      simp only [goF, downF]
      have := hw.2.1.1
      rw [show max (0 : Int) (0 - (wkT cs c).fill.hi) = 0 by omega]
      simp
    rw [h2, h3, getK_nul hok p]
/-! ### uses, one turn after the other -/
def fedU (ns : List Int) : Nat → List Us × Int
  | 0 => ([], 0)
  | k + 1 => if ns.getD k 0 = 0 then fedU ns k else ((fedU ns k).1 ++ [⟨(k : Int), (fedU ns k).2, (fedU ns k).2 + ns.getD k 0⟩], (fedU ns k).2 + ns.getD k 0)
theorem fedU_now {ns : List Int} (h : ∀ k, 0 ≤ ns.getD k 0 ∧ ns.getD k 0 ≤ 23040) : ∀ k, 0 ≤ (fedU ns k).2 ∧ (fedU ns k).2 ≤ k * 23040
  | 0 => ⟨Int.le_refl _, Int.le_refl _⟩
  | k + 1 => by
    have h1 := fedU_now h k
    have h2 := h k
    unfold fedU
    split
    · omega
    · show 0 ≤ (fedU ns k).2 + ns.getD k 0 ∧ (fedU ns k).2 + ns.getD k 0 ≤ _
      omega
theorem fedU_len (ns : List Int) : ∀ k, (fedU ns k).1.length ≤ k
  | 0 => Nat.le_refl _
  | k + 1 => by
    have h1 := fedU_len ns k
    unfold fedU
    split
    · omega
    · simp; omega
theorem fedU_mem {ns : List Int} : ∀ {k j : Nat}, j < k → ns.getD j 0 ≠ 0 → ∃ (i : Nat) (u : Us), (fedU ns k).1[i]? = some u ∧ u.field = (j : Int) ∧ u.to - u.frm = ns.getD j 0
  | 0, j, h, _ => by omega
  | k + 1, j, h, hj => by
    unfold fedU
    by_cases e : j = k
    · subst e
      rw [if_neg hj]
      exact ⟨(fedU ns j).1.length, _, List.getElem?_concat_length, rfl, by show (fedU ns j).2 + ns.getD j 0 - (fedU ns j).2 = _; omega⟩
    · obtain ⟨i, u, h1, h2, h3⟩ := fedU_mem (k := k) (show j < k by omega) hj
      split
      · exact ⟨i, u, h1, h2, h3⟩
      · exact ⟨i, u, by show ((fedU ns k).1 ++ [_])[i]? = some u; rw [List.getElem?_append_left (List.getElem?_eq_some_iff.1 h1).1]; exact h1, h2, h3⟩
theorem usAll_app {nf cyc : Int} {u : Us} : ∀ {us : List Us} {last now : Int}, usAll nf cyc last us = true → (∀ x ∈ us, x.to ≤ now) → last ≤ now → usOk nf cyc now u = true → usAll nf cyc last (us ++ [u]) = true
  | [], last, now, _, _, hl, hu => by
    show (usOk nf cyc last u && true) = true
    unfold usOk at hu ⊢
    simp only [Bool.and_eq_true, Bool.not_eq_true', decide_eq_true_eq, decide_eq_false_iff_not, Bool.and_true] at hu ⊢
    refine ⟨hu.1, ?_, hu.2.2⟩
    omega
  | x :: us, last, now, h, hx, hl, hu => by
    rw [List.cons_append]
    unfold usAll at h ⊢
    rw [Bool.and_eq_true] at h ⊢
    exact ⟨h.1, usAll_app h.2 (fun y hy => hx y (List.mem_cons_of_mem _ hy)) (hx x (List.mem_cons_self ..)) hu⟩
theorem fedU_all {ns : List Int} (h : ∀ k, 0 ≤ ns.getD k 0 ∧ ns.getD k 0 ≤ 23040) {cyc : Int} : ∀ k, (fedU ns k).2 ≤ cyc → usAll (ns.length : Int) cyc 0 (fedU ns k).1 = true ∧ (∀ x ∈ (fedU ns k).1, x.to ≤ (fedU ns k).2)
  | 0, _ => ⟨rfl, by simp [fedU]⟩
  | k + 1, hc => by
    have h2 := h k
    have h3 := (fedU_now h k).1
    unfold fedU at hc ⊢
    by_cases e : ns.getD k 0 = 0
    · rw [if_pos e] at hc ⊢
      exact fedU_all h k hc
    · rw [if_neg e] at hc ⊢
      have hc' : (fedU ns k).2 + ns.getD k 0 ≤ cyc := hc
      obtain ⟨a1, a2⟩ := fedU_all h k (cyc := cyc) (by omega)
      have hk : k < ns.length := by
        apply Classical.byContradiction
        intro hk
        apply e
        rw [List.getD_eq_getElem?_getD, List.getElem?_eq_none (by omega)]; rfl
      refine ⟨usAll_app a1 a2 h3 ?_, fun x hx => ?_⟩
      · unfold usOk
        simp only [Bool.and_eq_true, Bool.not_eq_true', decide_eq_true_eq, decide_eq_false_iff_not]
        refine ⟨⟨by omega, by omega⟩, by omega, by omega, by omega⟩
      · show x.to ≤ (fedU ns k).2 + ns.getD k 0
        rcases List.mem_append.1 hx with hx | hx
        · have := a2 x hx; omega
        · rw [List.mem_singleton] at hx; subst hx; exact Int.le_refl _
theorem fedU_ok {ns : List Int} (h : ∀ k, 0 ≤ ns.getD k 0 ∧ ns.getD k 0 ≤ 23040) {days : Int} {k : Nat} (hk : k ≤ 60) (hc : (fedU ns k).2 ≤ days * 1440) : usesOk (ns.length : Int) days (fedU ns k).1 = true := by
  unfold usesOk
  rw [(fedU_all h k hc).1, Bool.true_and]
  exact decide_eq_true (by have := fedU_len ns k; omega)
/-- What a field has got is at least what each of its uses brings. -/
theorem waters_ge {cs : List Ca} {fs : List Int} {dry days a b : Int} {us : List Us} (hok : netOk cs fs dry days = true) (huo : usesOk fs.length days us = true) (hs : Sp.ok 0 13000000 ⟨a, b⟩ = true) :
    ∀ k, k ≤ us.length → ∀ i u, i < k → us[i]? = some u → getK cs (pathK cs fs u.field) (a * (u.to - u.frm)) ≤ (atS (watersK cs fs dry (days * 1440) a b us k).1 u.field.toNat).lo
  | 0, _, i, u, hi, _ => by omega
  | k + 1, hk, i, u, hi, hu => by
    have hx : us[k]? = some us[k] := List.getElem?_eq_getElem (by omega)
    obtain ⟨g1, _, g3, _⟩ := watersK_bd (dry := dry) hok huo hs k (by omega)
    have hf := fun (v : Us) (hv : v ∈ us) => (usesOk_mem huo hv).1
    rw [watersK_succ]
    unfold useW
    rw [hx]
    show _ ≤ (atS (putS _ _ _) _).lo
    obtain ⟨L, hL⟩ : ∃ L, L = (watersK cs fs dry (days * 1440) a b us k).1 := ⟨_, rfl⟩
    have hge := pathW_ge hok (dryL cs fs dry (days * 1440) us k) (pathK cs fs us[k].field) (watersK cs fs dry (days * 1440) a b us k).2 ⟨a * (us[k].to - us[k].frm), b * (us[k].to - us[k].frm)⟩ (a * (us[k].to - us[k].frm)) (Int.le_refl _)
    obtain ⟨y, hy⟩ : ∃ y, y = (pathW cs (dryL cs fs dry (days * 1440) us k) (pathK cs fs us[k].field) (watersK cs fs dry (days * 1440) a b us k).2 ⟨a * (us[k].to - us[k].frm), b * (us[k].to - us[k].frm)⟩).2 := ⟨_, rfl⟩
    rw [← hy] at hge ⊢
    have hpos : 0 ≤ y.lo := by
      refine Int.le_trans ?_ hge
      have := (getK_amt hok (pathK cs fs us[k].field) (flow_amts (m := us[k].to - us[k].frm) hs (netOk_parts hok).2.2.2.1 (by have := (usesOk_mem huo (List.getElem_mem (by omega : k < us.length))).2; omega) (by have := (usesOk_mem huo (List.getElem_mem (by omega : k < us.length))).2; omega)).1 _ (Nat.le_refl _)).1
      rw [List.take_length] at this
      exact this
    rw [← hL] at g1 g3 ⊢
    have hput : ∀ j, j < L.length → atS (putS L us[k].field.toNat y) j = if j = us[k].field.toNat then addS (atS L j) y else atS L j := fun j hj => by
      unfold putS
      by_cases e : j = us[k].field.toNat
      · rw [if_pos e, ← e]; unfold atS; rw [List.getElem?_set_self hj]; rfl
      · rw [if_neg e]; unfold atS; rw [List.getElem?_set_ne (fun h => e h.symm)]
    have hfu := hf u (List.mem_of_getElem? hu)
    rw [hput u.field.toNat (by rw [g3]; omega)]
    by_cases e : i = k
    · subst e
      have : us[i] = u := by rw [hx] at hu; exact Option.some.inj hu
      rw [this] at hge ⊢
      rw [if_pos rfl]
      show _ ≤ (atS L u.field.toNat).lo + y.lo
      have := ((g1.at (by omega) u.field.toNat).1).1
      omega
    · have ih := waters_ge hok huo hs k (by omega) i u (by omega) hu
      rw [← hL] at ih
      split
      · show _ ≤ (atS L u.field.toNat).lo + y.lo
        omega
      · exact ih
theorem waters_pos {cs : List Ca} {fs : List Int} {dry days a b : Int} {us : List Us} (hok : netOk cs fs dry days = true) (huo : usesOk fs.length days us = true) (hs : Sp.ok 0 13000000 ⟨a, b⟩ = true) (j : Nat) :
    0 ≤ (atS (watersK cs fs dry (days * 1440) a b us us.length).1 j).lo ∧ 0 ≤ (atS (watersK cs fs dry (days * 1440) a b us us.length).1 j).hi := by
  obtain ⟨g1, _⟩ := watersK_bd (dry := dry) hok huo hs us.length (Nat.le_refl _)
  have := g1.at (by omega) j
  exact ⟨this.1.1, this.2.1⟩
/-! ### salt -/
theorem salt_more {s : So} {n v : Int} (hn : s.crop ≤ n) (hv : n ≤ v) (hw : s.mineral.hi ≤ s.wash.lo) : saltedF true s v ≤ saltedF true s n := by
  rw [salted_past (s := s) (x := v) (by omega), salted_past (s := s) (x := n) hn]
  have : (n - s.crop) * (s.wash.lo - s.mineral.hi) ≤ (v - s.crop) * (s.wash.lo - s.mineral.hi) := Int.mul_le_mul_of_nonneg_right (by omega) (by omega)
  omega
theorem cycle_more {s : So} {n v : Int} (hl : 0 ≤ s.limit) (hf : fineF s n = true) (hn : s.crop ≤ n) (hv : n ≤ v) (hw : s.mineral.hi ≤ s.wash.lo) : (cycleF s ⟨n, v⟩).hi ≤ s.limit := by
  unfold fineF at hf
  rw [decide_eq_true_eq] at hf
  have h1 := salt_more hn hv hw
  have e : min (max s.crop n) v = n := by omega
  simp only [cycleF, endC, turnsF, e, outF, maxF, List.map_cons, List.map_nil, List.foldl_cons, List.foldl_nil, roundF, if_true]
  omega
end Go.Proofs.Ytmbhnjpaieimbaa
