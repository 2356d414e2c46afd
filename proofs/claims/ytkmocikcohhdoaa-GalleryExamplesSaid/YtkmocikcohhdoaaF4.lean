/- Gallery: flows that fit and what is told of them, plain: each number that is told is reached, none beyond. No program is named here. -/
import Derived.Test.YtkmocikcohhdoaaF1
set_option linter.unusedVariables false
set_option linter.unusedSimpArgs false
namespace Go.Proofs.Ytkmocikcohhdoaa
open Go.RowKit Go.Shelf
def inS (n : Int) (s : Sp) : Prop := s.lo ≤ n ∧ n ≤ s.hi
/-- Flows that fit: in what comes in, in what was read, and each one out of the one above it. -/
structure Feas (g : List Rc) (rd : List Sp) (s : Sp) (ns : Nat → Int) : Prop where
  start : inS (ns 0) s
  read : ∀ k, k ≤ g.length → inS (ns k) (rd.getD k allS)
  step : ∀ k r, g[k]? = some r → leastF r (ns k) ≤ ns (k + 1) ∧ ns (k + 1) ≤ mostF r (ns k)
theorem Feas.tail {r : Rc} {g : List Rc} {rd : List Sp} {s : Sp} {ns : Nat → Int} (h : Feas (r :: g) rd s ns) (hr : r.fine) : Feas g rd.tail (outS r (cutS s (rd.headD allS))) (fun k => ns (k + 1)) := by
  have h0 := h.read 0 (by simp)
  have h1 := h.start
  have h2 := h.step 0 r rfl
  have e : rd.getD 0 allS = rd.headD allS := by cases rd <;> rfl
  rw [e] at h0
  obtain ⟨⟨h3, h4, h5⟩, ⟨h6, h7, h8⟩, ⟨h9, h10, h11⟩⟩ := hr
  refine ⟨?_, fun k hk => ?_, fun k r' hr' => ?_⟩
  · simp only [inS, outS, cutS, leastF, mostF] at *
    omega
  · have := h.read (k + 1) (by simpa using hk)
    cases rd <;> simpa [List.getD] using this
  · exact h.step (k + 1) r' (by simpa using hr')
theorem up_in {r : Rc} {f t : Sp} {n m : Int} (hr : r.fine) (hn : inS n f) (hm : inS m t) (h : leastF r n ≤ m ∧ m ≤ mostF r n) : inS n (upS r f t) := by
  obtain ⟨⟨h3, h4, h5⟩, ⟨h6, h7, h8⟩, ⟨h9, h10, h11⟩⟩ := hr
  simp only [inS, upS, leastF, mostF] at *
  split <;> split <;> omega
/-- What flows lies in what is told. -/
theorem feas_in : ∀ (g : List Rc) (rd : List Sp) (s : Sp) (ns : Nat → Int), (∀ r ∈ g, r.fine) → Feas g rd s ns → ∃ l, flowsF g rd s = some l ∧ ∀ k, k ≤ g.length → inS (ns k) (l.getD k allS)
  | [], rd, s, ns, _, h => by
    have h0 := h.read 0 (by simp)
    have h1 := h.start
    have e : rd.getD 0 allS = rd.headD allS := by cases rd <;> rfl
    rw [e] at h0
    unfold flowsF
    have h2 : inS (ns 0) (cutS s (rd.headD allS)) := by simp only [inS, cutS] at *; omega
    rw [if_pos (Int.le_trans h2.1 h2.2)]
    refine ⟨_, rfl, fun k hk => ?_⟩
    obtain rfl : k = 0 := by simpa using hk
    exact h2
  | r :: g, rd, s, ns, hg, h => by
    have h0 := h.read 0 (by simp)
    have h1 := h.start
    have e : rd.getD 0 allS = rd.headD allS := by cases rd <;> rfl
    rw [e] at h0
    have hr := hg r (by simp)
    obtain ⟨l, hl, hin⟩ := feas_in g _ _ _ (fun r hr => hg r (by simp [hr])) (h.tail hr)
    have h2 : inS (ns 0) (cutS s (rd.headD allS)) := by simp only [inS, cutS] at *; omega
    unfold flowsF
    rw [if_pos (Int.le_trans h2.1 h2.2), hl]
    refine ⟨_, rfl, fun k hk => ?_⟩
    cases k with
    | zero =>
      have h3 := hin 0 (by simp)
      have h4 : inS (ns 1) (l.headD allS) := by cases l <;> simpa [List.getD] using h3
      exact up_in hr h2 h4 (h.step 0 r rfl)
    | succ k => simpa [List.getD] using hin k (by simpa using hk)
/-- Out of what may come: a number that leads there. -/
theorem back_one {r : Rc} {f : Sp} {m : Int} (hr : r.fine) (hf : f.lo ≤ f.hi) (hm : inS m (outS r f)) : ∃ n, inS n f ∧ leastF r n ≤ m ∧ m ≤ mostF r n := by
  obtain ⟨⟨h3, h4, h5⟩, ⟨h6, h7, h8⟩, ⟨h9, h10, h11⟩⟩ := hr
  simp only [inS, outS, leastF, mostF] at *
  by_cases h : m ≤ r.gain.hi
  · exact ⟨f.lo, by omega⟩
  · by_cases h2 : f.lo ≤ m - r.gain.hi + r.leak.lo
    · exact ⟨m - r.gain.hi + r.leak.lo, by omega⟩
    · exact ⟨f.lo, by omega⟩
theorem fore_one {r : Rc} {f t : Sp} {n : Int} (hr : r.fine) (ht : t.lo ≤ t.hi) (h1 : leastF r f.lo ≤ t.lo) (h2 : t.hi ≤ mostF r f.hi) (hf : f.lo ≤ f.hi) (hn : inS n (upS r f t)) : ∃ m, inS m t ∧ leastF r n ≤ m ∧ m ≤ mostF r n := by
  obtain ⟨⟨h3, h4, h5⟩, ⟨h6, h7, h8⟩, ⟨h9, h10, h11⟩⟩ := hr
  have hlm : leastF r n ≤ mostF r n := by simp only [leastF, mostF]; omega
  have ha : leastF r n ≤ t.hi := by
    simp only [inS, upS, leastF, mostF] at *
    split at hn <;> split at hn <;> omega
  have hb : t.lo ≤ mostF r n := by
    simp only [inS, upS, leastF, mostF] at *
    split at hn <;> split at hn <;> omega
  exact ⟨max t.lo (leastF r n), by simp only [inS]; omega⟩
/-- The same flows, with another number ahead. -/
def consN (n : Int) (ns : Nat → Int) : Nat → Int | 0 => n | k + 1 => ns k
theorem Feas.cons {r : Rc} {g : List Rc} {rd : List Sp} {s : Sp} {ns : Nat → Int} {n : Int} {s' : Sp} (h : Feas g rd.tail s' ns) (hn : inS n (cutS s (rd.headD allS))) (hs : leastF r n ≤ ns 0 ∧ ns 0 ≤ mostF r n) : Feas (r :: g) rd s (consN n ns) := by
  refine ⟨?_, fun k hk => ?_, fun k r' hr' => ?_⟩
  · simp only [inS, cutS, consN] at *; omega
  · cases k with
    | zero =>
      have e : rd.getD 0 allS = rd.headD allS := by cases rd <;> rfl
      rw [e]
      simp only [inS, cutS, consN] at *; omega
    | succ k =>
      have := h.read k (by simpa using hk)
      cases rd <;> simpa [List.getD, consN] using this
  · cases k with
    | zero =>
      simp at hr'
      subst hr'
      exact hs
    | succ k => exact h.step k r' (by simpa using hr')
/-- Each number that is told is reached. -/
theorem feas_of : ∀ (k : Nat) (g : List Rc) (rd : List Sp) (s : Sp) (l : List Sp) (v : Int), (∀ r ∈ g, r.fine) → k ≤ g.length → flowsF g rd s = some l → inS v (l.getD k allS) → ∃ ns, Feas g rd s ns ∧ ns k = v := by
  -- from a shaft on
  have fore : ∀ (g : List Rc) (rd : List Sp) (s : Sp) (l : List Sp) (v : Int), (∀ r ∈ g, r.fine) → flowsF g rd s = some l → inS v (l.headD allS) → ∃ ns, Feas g rd s ns ∧ ns 0 = v := by
    intro g
    induction g with
    | nil =>
      intro rd s l v _ h hv
      unfold flowsF at h
      split at h
      · injection h with h
        subst h
        have e : rd.getD 0 allS = rd.headD allS := by cases rd <;> rfl
        have hv' : inS v (cutS s (rd.headD allS)) := hv
        refine ⟨fun _ => v, ⟨?_, fun k hk => ?_, fun k r hr => by simp at hr⟩, rfl⟩
        · simp only [inS, cutS] at *; omega
        · obtain rfl : k = 0 := by simpa using hk
          rw [e]
          simp only [inS, cutS] at *; omega
      · cases h
    | cons r g ih =>
      intro rd s l v hg h hv
      unfold flowsF at h
      split at h
      · rename_i h1
        obtain ⟨l2, hl2, rfl⟩ := Option.map_eq_some_iff.1 h
        have hg' : ∀ r ∈ g, r.fine := fun r hr => hg r (by simp [hr])
        obtain ⟨t, l', rfl, h2, h3, h4⟩ := flowsF_head g _ _ l2 hg' hl2
        obtain ⟨h5, h6⟩ := cutS_sub (a := outS r (cutS s (rd.headD allS))) (b := rd.tail.headD allS)
        have hv' : inS v (upS r (cutS s (rd.headD allS)) t) := hv
        obtain ⟨k1, k2, k3⟩ := up_ok (f := cutS s (rd.headD allS)) (t := t) (hg r (by simp)) h1 h3 (Int.le_trans h5 h2) (Int.le_trans h4 h6)
        obtain ⟨m, hm, hs⟩ := fore_one (hg r (by simp)) h3 (Int.le_trans h5 h2) (Int.le_trans h4 h6) h1 hv'
        obtain ⟨ns, hns, hn0⟩ := ih _ _ _ m hg' hl2 hm
        exact ⟨consN v ns, hns.cons ⟨Int.le_trans k1 hv'.1, Int.le_trans hv'.2 k3⟩ (by rw [hn0]; exact hs), rfl⟩
      · cases h
  intro k
  induction k with
  | zero =>
    intro g rd s l v hg _ h hv
    exact fore g rd s l v hg h (by cases l <;> simpa [List.getD] using hv)
  | succ k ih =>
    intro g rd s l v hg hk h hv
    cases g with
    | nil => simp at hk
    | cons r g =>
      have h' := h
      unfold flowsF at h
      split at h
      · rename_i h1
        obtain ⟨l2, hl2, rfl⟩ := Option.map_eq_some_iff.1 h
        have hg' : ∀ r ∈ g, r.fine := fun r hr => hg r (by simp [hr])
        obtain ⟨ns, hns, hnk⟩ := ih g _ _ l2 v hg' (by simpa using hk) hl2 (by simpa [List.getD] using hv)
        obtain ⟨n, hn, hs⟩ := back_one (hg r (by simp)) h1 hns.start
        exact ⟨consN n ns, hns.cons hn hs, hnk⟩
      · cases h
/-- A gauge that reads one number at one shaft. -/
theorem feas_at {g : List Rc} {rd : List Sp} {s : Sp} {k : Nat} (hg : ∀ r ∈ g, r.fine) (hk : k ≤ g.length) (hrd : rd.length = g.length + 1) (v : Int) :
    (flowsF g (rd.set k (cutS (rd.getD k allS) ⟨v, v⟩)) s).isSome = true ↔ ∃ l, flowsF g rd s = some l ∧ inS v (l.getD k allS) := by
  have hset : (rd.set k (cutS (rd.getD k allS) ⟨v, v⟩)).getD k allS = cutS (rd.getD k allS) ⟨v, v⟩ := by
    rw [List.getD_eq_getElem?_getD, List.getElem?_set_self (by omega)]; rfl
  have hoth : ∀ j, j ≠ k → (rd.set k (cutS (rd.getD k allS) ⟨v, v⟩)).getD j allS = rd.getD j allS := fun j hj => by
    rw [List.getD_eq_getElem?_getD, List.getElem?_set_ne (Ne.symm hj), List.getD_eq_getElem?_getD]
  constructor
  · intro h
    obtain ⟨l, hl⟩ := Option.isSome_iff_exists.1 h
    obtain ⟨t, l', rfl, h2, h3, h4⟩ := flowsF_head _ _ _ _ hg hl
    obtain ⟨ns, hns, _⟩ := feas_of 0 g _ s _ t.lo hg (by omega) hl ⟨Int.le_refl _, h3⟩
    have hv := hns.read k hk
    rw [hset] at hv
    have hF : Feas g rd s ns := ⟨hns.start, fun j hj => by
      by_cases e : j = k
      · subst e
        simp only [inS, cutS] at *; omega
      · rw [← hoth j e]; exact hns.read j hj, hns.step⟩
    obtain ⟨l2, hl2, hin⟩ := feas_in g rd s ns hg hF
    refine ⟨l2, hl2, ?_⟩
    have := hin k hk
    simp only [inS, cutS] at hv this ⊢
    omega
  · rintro ⟨l, hl, hv⟩
    obtain ⟨ns, hns, hnk⟩ := feas_of k g rd s l v hg hk hl hv
    have hF : Feas g (rd.set k (cutS (rd.getD k allS) ⟨v, v⟩)) s ns := ⟨hns.start, fun j hj => by
      by_cases e : j = k
      · subst e
        rw [hset]
        have := hns.read j hj
        simp only [inS, cutS] at *; omega
      · rw [hoth j e]; exact hns.read j hj, hns.step⟩
    obtain ⟨l2, hl2, _⟩ := feas_in g _ s ns hg hF
    rw [hl2]; rfl
/-- What is known better is told no wider. -/
def subS (a b : Sp) : Prop := b.lo ≤ a.lo ∧ a.hi ≤ b.hi
def Rc.sub (a b : Rc) : Prop := subS a.cap b.cap ∧ subS a.leak b.leak ∧ subS a.gain b.gain
theorem Feas.wider {g g' : List Rc} {rd rd' : List Sp} {s : Sp} {ns : Nat → Int} (h : Feas g rd s ns) (hl : g.length = g'.length) (hg : ∀ (k : Nat) (r r' : Rc), g[k]? = some r → g'[k]? = some r' → Rc.sub r r') (hrd : ∀ k, subS (rd.getD k allS) (rd'.getD k allS)) : Feas g' rd' s ns := by
  refine ⟨h.start, fun k hk => ?_, fun k r' hr' => ?_⟩
  · have h1 := h.read k (by omega)
    have h2 := hrd k
    simp only [inS, subS] at *; omega
  · have hk : k < g.length := by rw [hl]; exact (List.getElem?_eq_some_iff.1 hr').1
    have h1 := h.step k _ (List.getElem?_eq_getElem hk)
    obtain ⟨h2, h3, h4⟩ := hg k _ _ (List.getElem?_eq_getElem hk) hr'
    simp only [leastF, mostF, subS] at *; omega
theorem flows_wider {g g' : List Rc} {rd rd' : List Sp} {s : Sp} {l : List Sp} (hl : g.length = g'.length) (hg1 : ∀ r ∈ g, r.fine) (hg2 : ∀ r ∈ g', r.fine) (hg : ∀ (k : Nat) (r r' : Rc), g[k]? = some r → g'[k]? = some r' → Rc.sub r r') (hrd : ∀ k, subS (rd.getD k allS) (rd'.getD k allS)) (h : flowsF g rd s = some l) (hne : ∀ k, k ≤ g.length → (l.getD k allS).lo ≤ (l.getD k allS).hi) :
    ∃ l', flowsF g' rd' s = some l' ∧ ∀ k, k ≤ g.length → subS (l.getD k allS) (l'.getD k allS) := by
  have key : ∀ k, k ≤ g.length → ∀ v, inS v (l.getD k allS) → ∃ l', flowsF g' rd' s = some l' ∧ inS v (l'.getD k allS) := fun k hk v hv => by
    obtain ⟨ns, hns, hnk⟩ := feas_of k g rd s l v hg1 hk h hv
    obtain ⟨l', hl', hin⟩ := feas_in g' rd' s ns hg2 (hns.wider hl hg hrd)
    exact ⟨l', hl', by rw [← hnk]; exact hin k (by omega)⟩
  obtain ⟨l', hl', _⟩ := key 0 (by omega) _ ⟨Int.le_refl _, hne 0 (by omega)⟩
  refine ⟨l', hl', fun k hk => ?_⟩
  obtain ⟨l1, h1, h2⟩ := key k hk _ ⟨Int.le_refl _, hne k hk⟩
  obtain ⟨l3, h3, h4⟩ := key k hk _ ⟨hne k hk, Int.le_refl _⟩
  rw [hl'] at h1 h3
  injection h1 with h1
  injection h3 with h3
  subst h1 h3
  exact ⟨h2.1, h4.2⟩
theorem flowsF_ne : ∀ (g : List Rc) (rd : List Sp) (s : Sp) (l : List Sp), (∀ r ∈ g, r.fine) → flowsF g rd s = some l → ∀ k, k ≤ g.length → (l.getD k allS).lo ≤ (l.getD k allS).hi
  | g, rd, s, l, hg, h, 0, _ => by
    obtain ⟨t, l', rfl, h2, h3, h4⟩ := flowsF_head g rd s l hg h
    exact h3
  | [], rd, s, l, hg, h, k + 1, hk => by simp at hk
  | r :: g, rd, s, l, hg, h, k + 1, hk => by
    unfold flowsF at h
    split at h
    · obtain ⟨l2, hl2, rfl⟩ := Option.map_eq_some_iff.1 h
      simpa [List.getD] using flowsF_ne g _ _ l2 (fun r hr => hg r (by simp [hr])) hl2 k (by simpa using hk)
    · cases h
end Go.Proofs.Ytkmocikcohhdoaa
