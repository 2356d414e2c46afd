/- GalleryMore and GalleryNext, plain: what is known better is told no wider; where to measure next. No program is named here. -/
import Derived.Test.YtkmocikcohhdoaaJ9
import Derived.Test.YtkmocikcohhdoaaHC
set_option linter.unusedVariables false
set_option linter.unusedSimpArgs false
namespace Go.Proofs.Ytkmocikcohhdoaa
open Go.RowKit Go.Shelf
section
variable {g g' : List Rc} {s t : Sp} {l : List Ga} {x : Ga}
theorem subS_refl (a : Sp) : subS a a := ⟨Int.le_refl _, Int.le_refl _⟩
theorem Rc.sub_refl (r : Rc) : Rc.sub r r := ⟨subS_refl _, subS_refl _, subS_refl _⟩
theorem rd_more (n : Nat) (l : List Ga) (x : Ga) (k : Nat) : subS ((rdS n (l ++ [x])).getD k allS) ((rdS n l).getD k allS) := by
  rw [rdS_snoc]
  by_cases e : x.shaft.toNat = k
  · by_cases hk : k < (rdS n l).length
    · rw [e, List.getD_eq_getElem?_getD, List.getElem?_set_self hk]
      simp only [Option.getD_some, subS, cutS]
      omega
    · rw [List.set_eq_of_length_le (by omega)]
      exact subS_refl _
  · rw [List.getD_eq_getElem?_getD, List.getElem?_set_ne e, ← List.getD_eq_getElem?_getD]
    exact subS_refl _
theorem fall_sub {i : Nat} (hl : g'.length = g.length) (hg : ∀ (k : Nat) (r r' : Rc), g'[k]? = some r → g[k]? = some r' → Rc.sub r r') : ∀ (k : Nat) (r r' : Rc), (fallS g' i t)[k]? = some r → (fallS g i t)[k]? = some r' → Rc.sub r r' := by
  intro k r r' h1 h2
  unfold fallS at h1 h2
  by_cases e : i = k
  · subst e
    by_cases hk : i < g.length
    · rw [List.getElem?_set_self (by omega)] at h1
      rw [List.getElem?_set_self hk] at h2
      injection h1 with h1
      injection h2 with h2
      subst h1 h2
      have hk' : i < g'.length := by omega
      obtain ⟨h3, h4, h5⟩ := hg i _ _ (List.getElem?_eq_getElem hk') (List.getElem?_eq_getElem hk)
      rw [List.getD_eq_getElem?_getD, List.getElem?_eq_getElem hk', List.getD_eq_getElem?_getD, List.getElem?_eq_getElem hk]
      simp only [Option.getD_some]
      refine ⟨?_, h4, h5⟩
      simp only [fallR, subS] at *
      omega
    · rw [List.set_eq_of_length_le (by omega)] at h2
      rw [List.getElem?_eq_none (by omega)] at h2
      cases h2
  · rw [List.getElem?_set_ne e] at h1 h2
    exact hg k r r' h1 h2
theorem same_sub : ∀ (k : Nat) (r r' : Rc), g[k]? = some r → g[k]? = some r' → Rc.sub r r' := by
  intro k r r' h1 h2
  rw [h1] at h2
  injection h2 with h2
  rw [h2]
  exact Rc.sub_refl _
/-- What is known better: the flows. -/
theorem more_flows {l' : List Ga} {F : List Sp} (hl : g'.length = g.length) (h1 : ∀ r ∈ g', r.fine) (h2 : ∀ r ∈ g, r.fine) (hg : ∀ (k : Nat) (r r' : Rc), g'[k]? = some r → g[k]? = some r' → Rc.sub r r') (hrd : ∀ k, subS ((rdS g.length l').getD k allS) ((rdS g.length l).getD k allS)) (h : fitS g' l' s = some F) :
    ∃ F', fitS g l s = some F' ∧ F.length = g.length + 1 ∧ F'.length = g.length + 1 ∧ ∀ k, k ≤ g.length → subS (F.getD k allS) (F'.getD k allS) := by
  unfold fitS at h ⊢
  obtain ⟨F', h3, h4⟩ := flows_wider hl h1 h2 hg (by rw [hl]; exact hrd) h (fun k hk => flowsF_ne _ _ _ _ h1 h k hk)
  exact ⟨F', h3, by rw [flowsF_len _ _ _ _ h, hl], flowsF_len _ _ _ _ h3, fun k hk => h4 k (by omega)⟩
/-- What is known better: the falls. -/
theorem more_falls {l' : List Ga} {i : Nat} (hl : g'.length = g.length) (h1 : ∀ r ∈ g', r.fine) (h2 : ∀ r ∈ g, r.fine) (ht : t.fine 1000000) (hg : ∀ (k : Nat) (r r' : Rc), g'[k]? = some r → g[k]? = some r' → Rc.sub r r') (hrd : ∀ k, subS ((rdS g.length l').getD k allS) ((rdS g.length l).getD k allS)) (h : (fitF g' s l' t i).isSome = true) :
    (fitF g s l t i).isSome = true := by
  unfold fitF at h ⊢
  obtain ⟨F, hF⟩ := Option.isSome_iff_exists.1 h
  obtain ⟨F', h3, _⟩ := more_flows (g := fallS g i t) (g' := fallS g' i t) (l := l) (by rw [fallS_len, fallS_len, hl]) (fallS_fine h1 ht) (fallS_fine h2 ht) (fall_sub hl hg) (by rw [fallS_len]; exact hrd) hF
  rw [h3]; rfl
/-! where to measure next -/
variable {k i n : Nat}
theorem here_ne (hg : ∀ r ∈ g, r.fine) (ht : t.fine 1000000) (hk : k ≤ g.length) {y : Sp} (hy : y ∈ hereK g s l t k) : y.lo ≤ y.hi := by
  unfold hereK at hy
  obtain ⟨i, hi, rfl⟩ := List.mem_map.1 hy
  obtain ⟨F, hF⟩ := Option.isSome_iff_exists.1 (mem_falN.1 hi).2
  rw [hF]
  exact flowsF_ne _ _ _ _ (fallS_fine hg ht) hF k (by rw [fallS_len]; exact hk)
theorem holds_one {ss : List Sp} {y : Sp} {v : Int} (hy : y ∈ ss) (h1 : y.lo ≤ v) (h2 : v ≤ y.hi) : 1 ≤ holds ss v := by
  have : y ∈ ss.filter fun s => decide (s.lo ≤ v) && decide (v ≤ s.hi) := List.mem_filter.2 ⟨hy, by simp [h1, h2]⟩
  unfold holds
  exact List.length_pos_of_mem this
theorem crowd_pos (hg : ∀ r ∈ g, r.fine) (ht : t.fine 1000000) (hk : k ≤ g.length) (hne : 1 ≤ (falN g s l t g.length).length) : 1 ≤ crowdS (hereK g s l t k) := by
  have : 0 < (hereK g s l t k).length := by rw [hereK_len]; omega
  obtain ⟨y, hy⟩ := List.exists_mem_of_length_pos this
  exact Nat.le_trans (holds_one hy (Int.le_refl _) (here_ne hg ht hk hy)) (holds_crowd _ y hy)
/-- The shaft that is told: the fewest are left there, and more at each one ahead of it. -/
theorem nextGo_best : ∀ m, 1 ≤ m → (nextGo g s l t m).1 < m ∧ (nextGo g s l t m).2 = crowdS (hereK g s l t (nextGo g s l t m).1) ∧ ∀ o, o < m → (nextGo g s l t m).2 ≤ crowdS (hereK g s l t o) ∧ (o < (nextGo g s l t m).1 → (nextGo g s l t m).2 < crowdS (hereK g s l t o))
  | 0, h => by omega
  | 1, _ => by
    have h0 : crowdS (hereK g s l t 0) < (falN g s l t g.length).length + 1 := by
      have h1 := crowd_len (hereK g s l t 0)
      rw [hereK_len] at h1
      omega
    have e : nextGo g s l t 1 = (0, crowdS (hereK g s l t 0)) := by
      show (if crowdS (hereK g s l t 0) < (falN g s l t g.length).length + 1 then (0, crowdS (hereK g s l t 0)) else _) = _
      rw [if_pos h0]
    rw [e]
    refine ⟨by simp, rfl, fun o ho => ?_⟩
    obtain rfl : o = 0 := by omega
    exact ⟨Nat.le_refl _, fun h => by simp at h⟩
  | m + 2, _ => by
    obtain ⟨h1, h2, h3⟩ := nextGo_best (m + 1) (by omega)
    rw [nextGo]
    split
    · rename_i hc
      refine ⟨by simp, rfl, fun o ho => ?_⟩
      simp only
      by_cases e : o = m + 1
      · subst e; exact ⟨Nat.le_refl _, fun h => by omega⟩
      · have := (h3 o (by omega)).1
        exact ⟨by omega, fun _ => by omega⟩
    · rename_i hc
      refine ⟨by omega, h2, fun o ho => ?_⟩
      by_cases e : o = m + 1
      · subst e; exact ⟨by omega, fun h => by omega⟩
      · exact h3 o (by omega)
/-- With a number read at a shaft, as many are left as have it. -/
theorem fits_at (hg : ∀ r ∈ g, r.fine) (ht : t.fine 1000000) (hk : k ≤ g.length) (v : Int) (i : Nat) : (fitF g s (l ++ [⟨k, ⟨v, v⟩⟩]) t i).isSome = true ↔ ∃ F, fitF g s l t i = some F ∧ inS v (F.getD k allS) := by
  unfold fitF fitS
  rw [rdS_snoc]
  have := feas_at (g := fallS g i t) (rd := rdS (fallS g i t).length l) (s := s) (k := k) (fallS_fine hg ht) (by rw [fallS_len]; exact hk) (rdS_len _ _) v
  simpa using this
theorem stays_len (hg : ∀ r ∈ g, r.fine) (ht : t.fine 1000000) (hk : k ≤ g.length) (v : Int) : (falN g s (l ++ [⟨k, ⟨v, v⟩⟩]) t g.length).length = holds (hereK g s l t k) v := by
  unfold holds hereK falN
  rw [List.filter_map, List.length_map, List.filter_filter]
  congr 1
  apply List.filter_congr
  intro i _
  have := fits_at (s := s) (l := l) hg ht hk v i
  cases hF : fitF g s l t i with
  | none =>
    simp only [Option.isSome_none, Bool.and_false]
    cases h2 : (fitF g s (l ++ [⟨k, ⟨v, v⟩⟩]) t i).isSome with
    | false => rfl
    | true =>
      obtain ⟨F, hF', _⟩ := this.1 h2
      rw [hF] at hF'; cases hF'
  | some F =>
    simp only [Function.comp, hF, Option.isSome_some, Option.getD_some, Bool.and_true]
    have key : (fitF g s (l ++ [⟨k, ⟨v, v⟩⟩]) t i).isSome = true ↔ inS v (F.getD k allS) := by
      rw [this, hF]
      constructor
      · rintro ⟨F', e, h⟩
        injection e with e
        rw [e]; exact h
      · intro h; exact ⟨F, rfl, h⟩
    clear this hF
    generalize F.getD k allS = y at key ⊢
    generalize (fitF g s (l ++ [⟨k, ⟨v, v⟩⟩]) t i).isSome = b at key ⊢
    rw [Bool.eq_iff_iff, key]
    unfold inS
    simp
end
end Go.Proofs.Ytkmocikcohhdoaa
