/- The plain law: with more flow, a longer turn, less seepage, and canals that stay wet longer, no field gets less; what is known better is told no wider. No program here. -/
import Derived.Test.YthlnbgjlkliopaaN1
set_option linter.unusedVariables false
set_option linter.unusedSimpArgs false
namespace Go.Proofs.Ythlnbgjlkliopaa
open Go.RowKit Go.Shelf
def outW (cs : List Ca) (dr : List Int) (p : List Int) (v : Sp) : Sp := p.foldl (fun v c => goF (wkAt cs dr c) v) v
theorem pathW_out (cs : List Ca) (dr : List Int) : ∀ (p : List Int) (lost : List Sp) (v : Sp), (pathW cs dr p lost v).2 = outW cs dr p v
  | [], _, _ => rfl
  | c :: p, lost, v => by
    have h1 : pathW cs dr (c :: p) lost v = pathW cs dr p (canalW cs dr (lost, v) c).1 (canalW cs dr (lost, v) c).2 := rfl
    rw [h1, pathW_out cs dr p]
    rfl
def wkLo (x y : Wk) : Prop := y.fill.hi ≤ x.fill.hi ∧ x.thr.lo ≤ y.thr.lo ∧ 0 ≤ x.thr.lo
def wkHi (x y : Wk) : Prop := y.fill.lo ≤ x.fill.lo ∧ x.thr.hi ≤ y.thr.hi ∧ 0 ≤ x.thr.hi
theorem out_lo {A B : List Ca} {d e : List Int} : ∀ (p : List Int) (v v' : Sp), (∀ c ∈ p, wkLo (wkAt A d c) (wkAt B e c)) → v.lo ≤ v'.lo → (outW A d p v).lo ≤ (outW B e p v').lo
  | [], _, _, _, hv => hv
  | c :: p, v, v', h, hv => out_lo p _ _ (fun c' hc => h c' (List.mem_cons_of_mem _ hc)) (by
      have h1 := h c List.mem_cons_self
      exact downF_le hv h1.1 h1.2.1 h1.2.2)
theorem out_hi {A B : List Ca} {d e : List Int} : ∀ (p : List Int) (v v' : Sp), (∀ c ∈ p, wkHi (wkAt A d c) (wkAt B e c)) → v.hi ≤ v'.hi → (outW A d p v).hi ≤ (outW B e p v').hi
  | [], _, _, _, hv => hv
  | c :: p, v, v', h, hv => out_hi p _ _ (fun c' hc => h c' (List.mem_cons_of_mem _ hc)) (by
      have h1 := h c List.mem_cons_self
      exact upG_le hv h1.1 h1.2.1 h1.2.2)
/-- Canals of which the second ones soak up and lose no more. -/
def caLo (A B : List Ca) : Prop := A.length = B.length ∧ ∀ (k : Nat) (a b : Ca), A[k]? = some a → B[k]? = some b → (b.seep.hi ≤ a.seep.hi ∧ a.seep.hi ≤ 1000) ∧ (b.fill.hi ≤ a.fill.hi ∧ 0 ≤ a.fill.hi)
def caHi (A B : List Ca) : Prop := A.length = B.length ∧ ∀ (k : Nat) (a b : Ca), A[k]? = some a → B[k]? = some b → (b.seep.lo ≤ a.seep.lo ∧ a.seep.lo ≤ 1000) ∧ (b.fill.lo ≤ a.fill.lo ∧ 0 ≤ a.fill.lo)
theorem wk_lo {A B : List Ca} (h : caLo A B) {d e : List Int} {c : Int} (hd : c ∈ e → c ∈ d) : wkLo (wkAt A d c) (wkAt B e c) := by
  unfold wkAt
  cases ha : A[c.toNat]? with
  | none =>
    have : B[c.toNat]? = none := by
      rw [List.getElem?_eq_none_iff] at ha ⊢
      rw [← h.1]; exact ha
    rw [this]
    simp [wkLo]
  | some a =>
    obtain ⟨b, hb⟩ : ∃ b, B[c.toNat]? = some b := ⟨_, List.getElem?_eq_getElem (by rw [← h.1]; exact (List.getElem?_eq_some_iff.1 ha).1)⟩
    rw [hb]
    obtain ⟨⟨h1, h2⟩, h3, h4⟩ := h.2 _ _ _ ha hb
    by_cases hce : c ∈ e
    · have hcd := hd hce
      simp [wkLo, wkF, hce, hcd]
      omega
    · by_cases hcd : c ∈ d
      · simp [wkLo, wkF, hce, hcd]; omega
      · simp [wkLo, wkF, hce, hcd]; omega
theorem wk_hi {A B : List Ca} (h : caHi A B) {d e : List Int} {c : Int} (hd : c ∈ e → c ∈ d) : wkHi (wkAt A d c) (wkAt B e c) := by
  unfold wkAt
  cases ha : A[c.toNat]? with
  | none =>
    have : B[c.toNat]? = none := by
      rw [List.getElem?_eq_none_iff] at ha ⊢
      rw [← h.1]; exact ha
    rw [this]
    simp [wkHi]
  | some a =>
    obtain ⟨b, hb⟩ : ∃ b, B[c.toNat]? = some b := ⟨_, List.getElem?_eq_getElem (by rw [← h.1]; exact (List.getElem?_eq_some_iff.1 ha).1)⟩
    rw [hb]
    obtain ⟨⟨h1, h2⟩, h3, h4⟩ := h.2 _ _ _ ha hb
    by_cases hce : c ∈ e
    · have hcd := hd hce
      simp [wkHi, wkF, hce, hcd]
      omega
    · by_cases hcd : c ∈ d
      · simp [wkHi, wkF, hce, hcd]; omega
      · simp [wkHi, wkF, hce, hcd]; omega
/-! ### Paths and what is dry -/
theorem upF_same {A B : List Ca} (h : ∀ k, frmN A k = frmN B k) : ∀ (f n : Nat), upF A f n = upF B f n
  | 0, _ => rfl
  | f + 1, n => by
    unfold upF
    rw [h, upF_same h f]
theorem frmN_same {A B : List Ca} (h : A.map (·.frm) = B.map (·.frm)) (k : Nat) : frmN A k = frmN B k := by
  have h1 : (A[k]?).map (·.frm) = (B[k]?).map (·.frm) := by rw [← List.getElem?_map, ← List.getElem?_map, h]
  unfold frmN
  cases ha : A[k]? <;> cases hb : B[k]? <;> rw [ha, hb] at h1 <;> simp_all
theorem pathK_same {A B : List Ca} (h : A.map (·.frm) = B.map (·.frm)) (fs : List Int) (k : Int) : pathK A fs k = pathK B fs k := by
  unfold pathK pathF
  rw [upF_same (frmN_same h)]
theorem dryTo_iff {cs : List Ca} {fs : List Int} {dry cyc : Int} {us : List Us} {a : Nat} {ua : Us} {c : Int} : ∀ k, k ≤ us.length → (dryTo cs fs dry cyc us a ua c k = true ↔ ∀ (i : Nat) (u : Us), i < k → us[i]? = some u → oneB cs fs dry cyc a i ua u c = true) := by
  intro k
  induction k with
  | zero => intro _; simp [dryTo]
  | succ k ih =>
    intro hk
    have hx : us[k]? = some us[k] := List.getElem?_eq_getElem (by omega)
    rw [dryTo_snoc hx, Bool.and_eq_true, ih (by omega)]
    constructor
    · rintro ⟨h1, h2⟩ i u hi hu
      by_cases e : i = k
      · subst e; rw [hx] at hu; injection hu with hu; subst hu; exact h2
      · exact h1 i u (by omega) hu
    · intro h
      exact ⟨fun i u hi hu => h i u (by omega) hu, h k _ (by omega) hx⟩
/-- Uses of which the second ones end no earlier. -/
def usLe (X Y : List Us) : Prop := X.length = Y.length ∧ ∀ (k : Nat) (x y : Us), X[k]? = some x → Y[k]? = some y → x.field = y.field ∧ x.frm = y.frm ∧ x.to ≤ y.to
theorem usLe.refl (X : List Us) : usLe X X := ⟨rfl, fun k x y h1 h2 => by rw [h1] at h2; injection h2 with h2; subst h2; exact ⟨rfl, rfl, Int.le_refl _⟩⟩
theorem usLe.get {X Y : List Us} (h : usLe X Y) {k : Nat} {y : Us} (hy : Y[k]? = some y) : ∃ x, X[k]? = some x ∧ x.field = y.field ∧ x.frm = y.frm ∧ x.to ≤ y.to := by
  have hk := (List.getElem?_eq_some_iff.1 hy).1
  have hk' : k < X.length := by rw [h.1]; exact hk
  have hx : X[k]? = some X[k] := List.getElem?_eq_getElem hk'
  exact ⟨_, hx, h.2 _ _ _ hx hy⟩
theorem dry_mono {A B : List Ca} {fs : List Int} {dA dB days nf : Int} {X Y : List Us} (hp : A.map (·.frm) = B.map (·.frm)) (hA : netOk A fs dA days = true) (hB : netOk B fs dB days = true) (hX : usesOk nf days X = true) (hY : usesOk nf days Y = true)
    (hd : dA ≤ dB) (hu : usLe X Y) (k : Nat) (c : Int) (h : c ∈ dryL B fs dB (days * 1440) Y k) : c ∈ dryL A fs dA (days * 1440) X k := by
  rw [dry_eq hB hY] at h
  rw [dry_eq hA hX]
  unfold dryR at h ⊢
  cases hy : Y[k]? with
  | none => rw [hy] at h; simp at h
  | some y =>
    rw [hy] at h
    obtain ⟨x, hx, e1, e2, _⟩ := hu.get hy
    rw [hx]
    simp only [List.mem_filter] at h ⊢
    obtain ⟨h1, h2⟩ := h
    refine ⟨by rw [pathK_same hp, e1]; exact h1, ?_⟩
    unfold dryB at h2 ⊢
    rw [hy] at h2
    rw [hx]
    simp only at h2 ⊢
    rw [dryTo_iff _ (Nat.le_refl _)] at h2 ⊢
    intro i u hi hui
    obtain ⟨v, hv⟩ : ∃ v, Y[i]? = some v := ⟨_, List.getElem?_eq_getElem (by rw [← hu.1]; exact hi)⟩
    obtain ⟨f1, f2, f3⟩ := hu.2 i u v hui hv
    have h3 := h2 i v (by rw [← hu.1]; exact hi) hv
    unfold oneB gapR at h3 ⊢
    simp only [Bool.or_eq_true, Bool.not_eq_true', decide_eq_false_iff_not, decide_eq_true_eq] at h3 ⊢
    rcases h3 with h3 | h3
    · exact .inl (by rw [pathK_same hp, f1]; exact h3)
    · right
      split at h3 <;> rename_i hki
      · rw [if_pos hki]; omega
      · rw [if_neg hki]; omega
/-! ### What fields get -/
theorem atS_put (xs : List Sp) (i j : Nat) (y : Sp) : atS (putS xs i y) j = if i = j ∧ i < xs.length then addS (atS xs j) y else atS xs j := by
  unfold putS
  by_cases hi : i < xs.length
  · rw [atS_set _ _ _ _ hi]
    by_cases e : i = j
    · subst e; simp [hi]
    · simp [e]
  · rw [List.set_eq_of_length_le (by omega)]
    simp [hi]
theorem waters_len (cs : List Ca) (fs : List Int) (dry cyc a b : Int) (us : List Us) : ∀ k, (watersK cs fs dry cyc a b us k).1.length = fs.length := by
  intro k
  induction k with
  | zero => simp [watersK]
  | succ k ih =>
    rw [watersK_succ]
    unfold useW
    cases us[k]? with
    | none => exact ih
    | some u => simp only; rw [putS_len]; exact ih
/-- One relation for each use is one relation for each field. -/
theorem waters_rel {rel : Sp → Sp → Prop} (r0 : rel ⟨0, 0⟩ ⟨0, 0⟩) (ra : ∀ s t s' t', rel s s' → rel t t' → rel (addS s t) (addS s' t')) {A B : List Ca} {fs : List Int} {dA dB cyc a b a' b' : Int} {X Y : List Us} (hu : X.length = Y.length)
    (hf : ∀ (k : Nat) (x y : Us), X[k]? = some x → Y[k]? = some y → x.field = y.field ∧ rel (outW A (dryL A fs dA cyc X k) (pathK A fs x.field) ⟨a * (x.to - x.frm), b * (x.to - x.frm)⟩) (outW B (dryL B fs dB cyc Y k) (pathK B fs y.field) ⟨a' * (y.to - y.frm), b' * (y.to - y.frm)⟩)) :
    ∀ k i, rel (atS (watersK A fs dA cyc a b X k).1 i) (atS (watersK B fs dB cyc a' b' Y k).1 i) := by
  intro k
  induction k with
  | zero =>
    intro i
    have h : atS (List.replicate fs.length (⟨0, 0⟩ : Sp)) i = ⟨0, 0⟩ := by
      unfold atS
      by_cases h : i < fs.length <;> simp [List.getElem?_replicate, h]
    show rel (atS (List.replicate fs.length (⟨0, 0⟩ : Sp)) i) (atS (List.replicate fs.length (⟨0, 0⟩ : Sp)) i)
    rw [h]
    exact r0
  | succ k ih =>
    intro i
    rw [watersK_succ, watersK_succ]
    cases hx : X[k]? with
    | none =>
      have hy : Y[k]? = none := by rw [List.getElem?_eq_none_iff] at hx ⊢; omega
      unfold useW
      rw [hx, hy]
      exact ih i
    | some x =>
      obtain ⟨y, hy⟩ : ∃ y, Y[k]? = some y := ⟨_, List.getElem?_eq_getElem (by rw [← hu]; exact (List.getElem?_eq_some_iff.1 hx).1)⟩
      obtain ⟨e, hr⟩ := hf k x y hx hy
      rw [useW_at hx, useW_at hy, pathW_out, pathW_out]
      simp only
      rw [atS_put, atS_put, waters_len, waters_len, e]
      by_cases hc : y.field.toNat = i ∧ y.field.toNat < fs.length
      · rw [if_pos hc, if_pos hc]
        rw [← e] at hr ⊢
        exact ra _ _ _ _ (ih i) hr
      · rw [if_neg hc, if_neg hc]
        exact ih i
theorem more_lo {A B : List Ca} {fs : List Int} {dA dB days nf a b a' b' : Int} {X Y : List Us} (hp : A.map (·.frm) = B.map (·.frm)) (hA : netOk A fs dA days = true) (hB : netOk B fs dB days = true) (hX : usesOk nf days X = true) (hY : usesOk nf days Y = true)
    (hd : dA ≤ dB) (hu : usLe X Y) (hc : caLo A B) (ha : 0 ≤ a) (haa : a ≤ a') (k i : Nat) : (atS (watersK A fs dA (days * 1440) a b X k).1 i).lo ≤ (atS (watersK B fs dB (days * 1440) a' b' Y k).1 i).lo := by
  refine waters_rel (rel := fun s t => s.lo ≤ t.lo) (Int.le_refl _) (fun s t s' t' h1 h2 => by simp only [addS]; omega) hu.1 (fun k x y hx hy => ?_) k i
  obtain ⟨e1, e2, e3⟩ := hu.2 k x y hx hy
  refine ⟨e1, ?_⟩
  rw [pathK_same hp, e1]
  refine out_lo _ _ _ (fun c _ => wk_lo hc (dry_mono hp hA hB hX hY hd hu k c)) ?_
  have hm := (usesOk_mem hX (List.mem_of_getElem? hx)).2
  exact mul_mono haa (by omega) ha (by omega)
theorem more_hi {A B : List Ca} {fs : List Int} {dA dB days nf a b a' b' : Int} {X Y : List Us} (hp : A.map (·.frm) = B.map (·.frm)) (hA : netOk A fs dA days = true) (hB : netOk B fs dB days = true) (hX : usesOk nf days X = true) (hY : usesOk nf days Y = true)
    (hd : dA ≤ dB) (hu : usLe X Y) (hc : caHi A B) (ha : 0 ≤ b) (haa : b ≤ b') (k i : Nat) : (atS (watersK A fs dA (days * 1440) a b X k).1 i).hi ≤ (atS (watersK B fs dB (days * 1440) a' b' Y k).1 i).hi := by
  refine waters_rel (rel := fun s t => s.hi ≤ t.hi) (Int.le_refl _) (fun s t s' t' h1 h2 => by simp only [addS]; omega) hu.1 (fun k x y hx hy => ?_) k i
  obtain ⟨e1, e2, e3⟩ := hu.2 k x y hx hy
  refine ⟨e1, ?_⟩
  rw [pathK_same hp, e1]
  refine out_hi _ _ _ (fun c _ => wk_hi hc (dry_mono hp hA hB hX hY hd hu k c)) ?_
  have hm := (usesOk_mem hX (List.mem_of_getElem? hx)).2
  exact mul_mono haa (by omega) ha (by omega)
end Go.Proofs.Ythlnbgjlkliopaa
