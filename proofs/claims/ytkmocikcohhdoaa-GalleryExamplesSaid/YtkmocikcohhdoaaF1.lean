/- Gallery: the flows that fit, plain: the way down, the way up, and what the reference says of them. No program is named here. -/
import Derived.Test.YtkmocikcohhdoaaG5
set_option linter.unusedVariables false
set_option linter.unusedSimpArgs false
namespace Go.Proofs.Ytkmocikcohhdoaa
open Go.RowKit Go.Shelf

def cutS (a b : Sp) : Sp := ⟨max a.lo b.lo, min a.hi b.hi⟩
def allS : Sp := ⟨0, 13000000⟩
def Sp.fine (m : Int) (s : Sp) : Prop := 0 ≤ s.lo ∧ s.lo ≤ s.hi ∧ s.hi ≤ m
def Rc.fine (r : Rc) : Prop := r.cap.fine 1000000 ∧ r.leak.fine 1000000 ∧ r.gain.fine 1000000
def Rc.zero : Rc := ⟨⟨0, 0⟩, ⟨0, 0⟩, ⟨0, 0⟩⟩
/-- What flows out of a reach. -/
def outS (r : Rc) (s : Sp) : Sp := ⟨leastF r s.lo, mostF r s.hi⟩
/-- What of f leads to t. -/
def upS (r : Rc) (f t : Sp) : Sp :=
  ⟨if r.gain.hi < t.lo then max f.lo (t.lo - r.gain.hi + r.leak.lo) else f.lo, if t.hi < max 0 (r.cap.lo - r.leak.hi) + r.gain.lo then min f.hi (t.hi - r.gain.lo + r.leak.hi) else f.hi⟩
/-- The flows that fit. -/
def flowsF : List Rc → List Sp → Sp → Option (List Sp)
  | [], rd, s => if (cutS s (rd.headD allS)).lo ≤ (cutS s (rd.headD allS)).hi then some [cutS s (rd.headD allS)] else none
  | r :: g, rd, s => if (cutS s (rd.headD allS)).lo ≤ (cutS s (rd.headD allS)).hi then
      (flowsF g rd.tail (outS r (cutS s (rd.headD allS)))).map fun l => upS r (cutS s (rd.headD allS)) (l.headD allS) :: l
    else none
/-- The flow at shaft k, going down; and what comes in there. -/
def inK (g : List Rc) (rd : List Sp) (s : Sp) : Nat → Sp
  | 0 => s
  | k + 1 => outS (g.getD k Rc.zero) (cutS (inK g rd s k) (rd.getD k allS))
def dnK (g : List Rc) (rd : List Sp) (s : Sp) (k : Nat) : Sp := cutS (inK g rd s k) (rd.getD k allS)
theorem inK_succ (g : List Rc) (rd : List Sp) (s : Sp) (k : Nat) : inK g rd s (k + 1) = outS (g.getD k Rc.zero) (dnK g rd s k) := rfl
theorem inK_cons (r : Rc) (g : List Rc) (rd : List Sp) (s : Sp) : ∀ k, inK (r :: g) rd s (k + 1) = inK g rd.tail (outS r (cutS s (rd.headD allS))) k
  | 0 => by cases rd <;> rfl
  | k + 1 => by
    have := inK_cons r g rd s k
    rw [inK, this, inK]
    cases rd <;> simp [List.getD]
def okS (s : Sp) : Prop := s.lo ≤ s.hi
instance (s : Sp) : Decidable (okS s) := inferInstanceAs (Decidable (s.lo ≤ s.hi))

theorem flowsF_len : ∀ (g : List Rc) (rd : List Sp) (s : Sp) (l : List Sp), flowsF g rd s = some l → l.length = g.length + 1
  | [], rd, s, l, h => by
    unfold flowsF at h
    split at h
    · injection h with h; rw [← h]; rfl
    · cases h
  | r :: g, rd, s, l, h => by
    unfold flowsF at h
    split at h
    · obtain ⟨t, ht, rfl⟩ := Option.map_eq_some_iff.1 h
      have := flowsF_len g _ _ t ht
      simp [this]
    · cases h
/-- Torn at shaft k. -/
theorem flowsF_torn : ∀ (k : Nat) (g : List Rc) (rd : List Sp) (s : Sp), k ≤ g.length → ¬ okS (dnK g rd s k) → flowsF g rd s = none
  | 0, g, rd, s, _, h => by
    have h1 : ¬ (cutS s (rd.headD allS)).lo ≤ (cutS s (rd.headD allS)).hi := by
      intro hc
      apply h
      unfold dnK inK okS
      cases rd <;> exact hc
    cases g with
    | nil => unfold flowsF; rw [if_neg h1]
    | cons r g => unfold flowsF; rw [if_neg h1]
  | k + 1, [], rd, s, hk, _ => by simp at hk
  | k + 1, r :: g, rd, s, hk, h => by
    unfold flowsF
    split
    · rw [flowsF_torn k g _ _ (by simpa using hk) (by
        unfold dnK at h ⊢
        rw [inK_cons] at h
        cases rd <;> simpa [List.getD] using h)]
      rfl
    · rfl
/-- The last shaft, where nothing tears. -/
theorem flowsF_last (g : List Rc) (rd : List Sp) (s : Sp) (h : okS (dnK g rd s g.length)) : flowsF (g.drop g.length) (rd.drop g.length) (inK g rd s g.length) = some [dnK g rd s g.length] := by
  rw [List.drop_length]
  have e : (rd.drop g.length).headD allS = rd.getD g.length allS := by
    rw [List.headD_eq_head?_getD, List.head?_drop, List.getD_eq_getElem?_getD]
  unfold flowsF
  rw [e]
  exact if_pos h
/-- One shaft up. -/
theorem flowsF_up (g : List Rc) (rd : List Sp) (s : Sp) (k : Nat) (r : Rc) (hr : g[k]? = some r) (t : Sp) (l : List Sp) (h : okS (dnK g rd s k)) (hl : flowsF (g.drop (k + 1)) (rd.drop (k + 1)) (inK g rd s (k + 1)) = some (t :: l)) :
    flowsF (g.drop k) (rd.drop k) (inK g rd s k) = some (upS r (dnK g rd s k) t :: t :: l) := by
  obtain ⟨hk, hr'⟩ := List.getElem?_eq_some_iff.1 hr
  have e : (rd.drop k).headD allS = rd.getD k allS := by
    rw [List.headD_eq_head?_getD, List.head?_drop, List.getD_eq_getElem?_getD]
  have e2 : g.getD k Rc.zero = r := by rw [List.getD_eq_getElem?_getD, hr]; rfl
  rw [List.drop_eq_getElem_cons hk, hr']
  unfold flowsF
  rw [e]
  rw [inK_succ, e2] at hl
  have h' : (cutS (inK g rd s k) (rd.getD k allS)).lo ≤ (cutS (inK g rd s k) (rd.getD k allS)).hi := h
  rw [if_pos h', List.tail_drop]
  show Option.map _ (flowsF (g.drop (k + 1)) (rd.drop (k + 1)) (outS r (dnK g rd s k))) = _
  rw [hl]
  rfl

/-! bounds -/
theorem cutS_sub {a b : Sp} : a.lo ≤ (cutS a b).lo ∧ (cutS a b).hi ≤ a.hi := by simp only [cutS]; omega
theorem outS_fine {r : Rc} {s : Sp} (hr : r.fine) (hs : s.fine 13000000) : (outS r s).fine 2000000 := by
  obtain ⟨⟨h1, h2, h3⟩, ⟨h4, h5, h6⟩, ⟨h7, h8, h9⟩⟩ := hr
  obtain ⟨h10, h11, h12⟩ := hs
  simp only [outS, leastF, mostF, Sp.fine]
  omega
theorem cutS_fine {a b : Sp} {m : Int} (ha : a.fine m) (hb : 0 ≤ b.lo) (h : okS (cutS a b)) : (cutS a b).fine m := by
  obtain ⟨h1, h2, h3⟩ := ha
  simp only [okS, cutS, Sp.fine] at *
  omega

/-! the way up: what a search finds is the reference's -/
section
variable {r : Rc} {f t : Sp}
theorem up_lo {n : Int} (hf : f.lo ≤ f.hi) (h0 : f.lo ≤ n ∧ n ≤ f.hi + 1) (h1 : f.lo < n → ¬ t.lo ≤ mostF r (n - 1)) (h2 : n ≤ f.hi → t.lo ≤ mostF r n) (ht : t.lo ≤ mostF r f.hi) : n = (upS r f t).lo := by
  simp only [upS, mostF] at *
  by_cases hn : n ≤ f.hi
  · have h2 := h2 hn
    by_cases hl : f.lo < n
    · have h1 := h1 hl
      split <;> omega
    · split <;> omega
  · have h1 := h1 (by omega)
    rw [show n - 1 = f.hi by omega] at h1
    exact absurd ht h1
theorem up_hi {n : Int} (hf : f.lo ≤ f.hi) (h0 : f.lo ≤ n ∧ n ≤ f.hi + 1) (h1 : f.lo < n → ¬ t.hi < leastF r (n - 1)) (h2 : n ≤ f.hi → t.hi < leastF r n) (ht : leastF r f.lo ≤ t.hi) : n - 1 = (upS r f t).hi := by
  simp only [upS, leastF] at *
  by_cases hl : f.lo < n
  · have h1 := h1 hl
    by_cases hn : n ≤ f.hi
    · have h2 := h2 hn
      split <;> omega
    · split <;> omega
  · have h2 := h2 (by omega)
    rw [show n = f.lo by omega] at h2
    omega
theorem up_ok (hr : r.fine) (hf : f.lo ≤ f.hi) (ht : t.lo ≤ t.hi) (h1 : leastF r f.lo ≤ t.lo) (h2 : t.hi ≤ mostF r f.hi) : f.lo ≤ (upS r f t).lo ∧ (upS r f t).lo ≤ (upS r f t).hi ∧ (upS r f t).hi ≤ f.hi := by
  obtain ⟨⟨h3, h4, h5⟩, ⟨h6, h7, h8⟩, ⟨h9, h10, h11⟩⟩ := hr
  simp only [upS, leastF, mostF] at *
  split <;> split <;> omega
end
/-- What is found at a shaft lies in what comes there. -/
theorem flowsF_head : ∀ (g : List Rc) (rd : List Sp) (s : Sp) (l : List Sp), (∀ r ∈ g, r.fine) → flowsF g rd s = some l → ∃ t l', l = t :: l' ∧ (cutS s (rd.headD allS)).lo ≤ t.lo ∧ t.lo ≤ t.hi ∧ t.hi ≤ (cutS s (rd.headD allS)).hi
  | [], rd, s, l, _, h => by
    unfold flowsF at h
    split at h
    · rename_i h1
      injection h with h
      exact ⟨_, _, h.symm, Int.le_refl _, h1, Int.le_refl _⟩
    · cases h
  | r :: g, rd, s, l, hg, h => by
    unfold flowsF at h
    split at h
    · rename_i h1
      obtain ⟨l2, hl2, rfl⟩ := Option.map_eq_some_iff.1 h
      obtain ⟨t, l', rfl, h2, h3, h4⟩ := flowsF_head g _ _ l2 (fun r hr => hg r (by simp [hr])) hl2
      obtain ⟨h5, h6⟩ := cutS_sub (a := outS r (cutS s (rd.headD allS))) (b := rd.tail.headD allS)
      obtain ⟨k1, k2, k3⟩ := up_ok (f := cutS s (rd.headD allS)) (t := t) (hg r (by simp)) h1 h3 (Int.le_trans h5 h2) (Int.le_trans h4 h6)
      exact ⟨_, _, rfl, k1, k2, k3⟩
    · cases h

/-! what was read -/
def rdS (n : Nat) (l : List Ga) : List Sp := l.foldl (fun rd x => rd.set x.shaft.toNat (cutS (rd.getD x.shaft.toNat allS) x.flow)) (List.replicate (n + 1) allS)
theorem rdS_snoc (n : Nat) (l : List Ga) (x : Ga) : rdS n (l ++ [x]) = (rdS n l).set x.shaft.toNat (cutS ((rdS n l).getD x.shaft.toNat allS) x.flow) := by simp [rdS]
theorem rdS_len (n : Nat) (l : List Ga) : (rdS n l).length = n + 1 := by
  have : ∀ (l : List Ga) (rd : List Sp), rd.length = n + 1 → (l.foldl (fun rd x => rd.set x.shaft.toNat (cutS (rd.getD x.shaft.toNat allS) x.flow)) rd).length = n + 1 := by
    intro l
    induction l with
    | nil => intro rd h; exact h
    | cons x l ih => intro rd h; exact ih _ (by simpa using h)
  exact this l _ (by simp)
theorem rdS_bd (n : Nat) (l : List Ga) (h : ∀ x ∈ l, x.flow.fine 13000000) : ∀ s ∈ rdS n l, 0 ≤ s.lo ∧ s.lo ≤ 13000000 ∧ 0 ≤ s.hi ∧ s.hi ≤ 13000000 := by
  have : ∀ (l : List Ga) (rd : List Sp), (∀ x ∈ l, x.flow.fine 13000000) → (∀ s ∈ rd, 0 ≤ s.lo ∧ s.lo ≤ 13000000 ∧ 0 ≤ s.hi ∧ s.hi ≤ 13000000) → ∀ s ∈ l.foldl (fun rd x => rd.set x.shaft.toNat (cutS (rd.getD x.shaft.toNat allS) x.flow)) rd, 0 ≤ s.lo ∧ s.lo ≤ 13000000 ∧ 0 ≤ s.hi ∧ s.hi ≤ 13000000 := by
    intro l
    induction l with
    | nil => intro rd _ h; exact h
    | cons x l ih =>
      intro rd h h2
      refine ih _ (fun y hy => h y (by simp [hy])) ?_
      intro s hs
      rcases List.mem_or_eq_of_mem_set hs with hs | rfl
      · exact h2 s hs
      · obtain ⟨h3, h4, h5⟩ := h x (by simp)
        have h6 : 0 ≤ (rd.getD x.shaft.toNat allS).lo ∧ (rd.getD x.shaft.toNat allS).lo ≤ 13000000 ∧ 0 ≤ (rd.getD x.shaft.toNat allS).hi ∧ (rd.getD x.shaft.toNat allS).hi ≤ 13000000 := by
          rw [List.getD_eq_getElem?_getD]
          cases he : rd[x.shaft.toNat]? with
          | none => simp [allS]
          | some y => exact h2 y (List.mem_of_getElem? he)
        simp only [cutS]
        omega
  refine this l _ h ?_
  intro s hs
  rw [List.eq_of_mem_replicate hs]
  simp [allS]
/-- What fits, whatever was read. -/
def fitS (g : List Rc) (l : List Ga) (s : Sp) : Option (List Sp) := flowsF g (rdS g.length l) s
/-- What is lost in each reach. -/
def lostS (g : List Rc) (f : List Sp) : List Sp := (List.range g.length).map fun i => ⟨(f.getD i allS).lo - max 0 (min (f.getD i allS).lo (g.getD i Rc.zero).cap.hi - (g.getD i Rc.zero).leak.lo), (f.getD i allS).hi - max 0 (min (f.getD i allS).hi (g.getD i Rc.zero).cap.lo - (g.getD i Rc.zero).leak.hi)⟩
theorem dnK_bd {g : List Rc} {rd : List Sp} {s : Sp} (hg : ∀ r ∈ g, r.fine) (hrd : ∀ x ∈ rd, 0 ≤ x.lo ∧ x.lo ≤ 13000000 ∧ 0 ≤ x.hi ∧ x.hi ≤ 13000000) (hs : s.fine 1000000) : ∀ k, k ≤ g.length → (∀ j, j < k → okS (dnK g rd s j)) → (inK g rd s k).fine 2000000 ∧ 0 ≤ (dnK g rd s k).lo ∧ (dnK g rd s k).lo ≤ 13000000 ∧ 0 ≤ (dnK g rd s k).hi ∧ (dnK g rd s k).hi ≤ 13000000 := by
  have hx : ∀ k, 0 ≤ (rd.getD k allS).lo ∧ (rd.getD k allS).lo ≤ 13000000 ∧ 0 ≤ (rd.getD k allS).hi ∧ (rd.getD k allS).hi ≤ 13000000 := fun k => by
    rw [List.getD_eq_getElem?_getD]
    cases he : rd[k]? with
    | none => simp [allS]
    | some y => exact hrd y (List.mem_of_getElem? he)
  have hcut : ∀ k, (inK g rd s k).fine 2000000 → 0 ≤ (dnK g rd s k).lo ∧ (dnK g rd s k).lo ≤ 13000000 ∧ 0 ≤ (dnK g rd s k).hi ∧ (dnK g rd s k).hi ≤ 13000000 := fun k h => by
    obtain ⟨h1, h2, h3⟩ := h
    have := hx k
    simp only [dnK, cutS]
    omega
  intro k
  induction k with
  | zero => intro _ _; have h : (inK g rd s 0).fine 2000000 := by (obtain ⟨h1, h2, h3⟩ := hs; exact ⟨h1, h2, by show s.hi ≤ _; omega⟩)
            exact ⟨h, hcut 0 h⟩
  | succ k ih =>
    intro hk hj
    obtain ⟨h1, h2⟩ := ih (by omega) (fun j hjk => hj j (by omega))
    have hok := hj k (by omega)
    have hr : (g.getD k Rc.zero).fine := by
      rw [List.getD_eq_getElem?_getD, List.getElem?_eq_getElem (by omega)]
      exact hg _ (List.getElem_mem _)
    have h : (inK g rd s (k + 1)).fine 2000000 := by
      rw [inK_succ]
      refine outS_fine hr ⟨h2.1, hok, h2.2.2.2⟩
    exact ⟨h, hcut _ h⟩
end Go.Proofs.Ytkmocikcohhdoaa
