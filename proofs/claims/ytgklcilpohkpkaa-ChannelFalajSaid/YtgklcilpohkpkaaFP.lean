/- Gallery: the flows that fit, plain: the way down, the way up, and what the reference says of them. No program is named here. Gallery: flows that fit and what is told of them, plain: each number that is told is reached, none beyond. No program is named here. Gallery: what flows in truth lies in what is told; how many spans have a number in common: plain. No program is named here. Gallery: the reaches that are suspected, and where to measure next, plain. No program is named here. -/
import Derived.Test.YtgklcilpohkpkaaG5
import Derived.Test.YtgklcilpohkpkaaGA
set_option linter.unusedVariables false
set_option linter.unusedSimpArgs false
namespace Go.Proofs.Ytgklcilpohkpkaa
open Go.RowKit Go.Shelf

def cutS (a b : Sp) : Sp := ⟨max a.lo b.lo, min a.hi b.hi⟩
def allS : Sp := ⟨0, 13000000⟩
def Sp.fine (m : Int) (s : Sp) : Prop := 0 ≤ s.lo ∧ s.lo ≤ s.hi ∧ s.hi ≤ m
def Rc.fine (r : Rc) : Prop := r.cap.fine 1000000 ∧ r.leak.fine 1000000 ∧ r.gain.fine 1000000
def Rc.zero : Rc := ⟨⟨0, 0⟩, ⟨0, 0⟩, ⟨0, 0⟩⟩
/-- What flows out of a reach. -/
def outS (r : Rc) (s : Sp) : Sp := ⟨leastF r s.lo, mostF r s.hi⟩
/-- What of f leads to t. -/
def upS (r : Rc) (f t : Sp) : Sp :=
  ⟨if r.gain.hi < t.lo then max f.lo (t.lo - r.gain.hi + r.leak.lo) else f.lo, if t.hi < max 0 (r.cap.lo - r.leak.hi) + r.gain.lo then min f.hi (t.hi - r.gain.lo + r.leak.hi) else f.hi⟩
/-- The flows that fit. -/
def flowsF : List Rc → List Sp → Sp → Option (List Sp)
  | [], rd, s => if (cutS s (rd.headD allS)).lo ≤ (cutS s (rd.headD allS)).hi then some [cutS s (rd.headD allS)] else none
  | r :: g, rd, s => if (cutS s (rd.headD allS)).lo ≤ (cutS s (rd.headD allS)).hi then
      (flowsF g rd.tail (outS r (cutS s (rd.headD allS)))).map fun l => upS r (cutS s (rd.headD allS)) (l.headD allS) :: l
    else none
/-- The flow at shaft k, going down; and what comes in there. -/
def inK (g : List Rc) (rd : List Sp) (s : Sp) : Nat → Sp
  | 0 => s
  | k + 1 => outS (g.getD k Rc.zero) (cutS (inK g rd s k) (rd.getD k allS))
def dnK (g : List Rc) (rd : List Sp) (s : Sp) (k : Nat) : Sp := cutS (inK g rd s k) (rd.getD k allS)
theorem inK_succ (g : List Rc) (rd : List Sp) (s : Sp) (k : Nat) : inK g rd s (k + 1) = outS (g.getD k Rc.zero) (dnK g rd s k) := rfl
theorem inK_cons (r : Rc) (g : List Rc) (rd : List Sp) (s : Sp) : ∀ k, inK (r :: g) rd s (k + 1) = inK g rd.tail (outS r (cutS s (rd.headD allS))) k
  | 0 => by cases rd <;> rfl
  | k + 1 => by
    have := inK_cons r g rd s k
    rw [inK, this, inK]
    cases rd <;> simp [List.getD]
def okS (s : Sp) : Prop := s.lo ≤ s.hi
instance (s : Sp) : Decidable (okS s) := inferInstanceAs (Decidable (s.lo ≤ s.hi))

theorem flowsF_len : ∀ (g : List Rc) (rd : List Sp) (s : Sp) (l : List Sp), flowsF g rd s = some l → l.length = g.length + 1
  | [], rd, s, l, h => by
    unfold flowsF at h
    split at h
    · injection h with h; rw [← h]; rfl
    · cases h
  | r :: g, rd, s, l, h => by
    unfold flowsF at h
    split at h
    · obtain ⟨t, ht, rfl⟩ := Option.map_eq_some_iff.1 h
      have := flowsF_len g _ _ t ht
      simp [this]
    · cases h
/-- Torn at shaft k. -/
theorem flowsF_torn : ∀ (k : Nat) (g : List Rc) (rd : List Sp) (s : Sp), k ≤ g.length → ¬ okS (dnK g rd s k) → flowsF g rd s = none
  | 0, g, rd, s, _, h => by
    have h1 : ¬ (cutS s (rd.headD allS)).lo ≤ (cutS s (rd.headD allS)).hi := by
      intro hc
      apply h
      unfold dnK inK okS
      cases rd <;> exact hc
    cases g with
    | nil => unfold flowsF; rw [if_neg h1]
    | cons r g => unfold flowsF; rw [if_neg h1]
  | k + 1, [], rd, s, hk, _ => by simp at hk
  | k + 1, r :: g, rd, s, hk, h => by
    unfold flowsF
    split
    · rw [flowsF_torn k g _ _ (by simpa using hk) (by
        unfold dnK at h ⊢
        rw [inK_cons] at h
        cases rd <;> simpa [List.getD] using h)]
      rfl
    · rfl
/-- The last shaft, where nothing tears. -/
theorem flowsF_last (g : List Rc) (rd : List Sp) (s : Sp) (h : okS (dnK g rd s g.length)) : flowsF (g.drop g.length) (rd.drop g.length) (inK g rd s g.length) = some [dnK g rd s g.length] := by
  rw [List.drop_length]
  have e : (rd.drop g.length).headD allS = rd.getD g.length allS := by
    rw [List.headD_eq_head?_getD, List.head?_drop, List.getD_eq_getElem?_getD]
  unfold flowsF
  rw [e]
  exact if_pos h
/-- One shaft up. -/
theorem flowsF_up (g : List Rc) (rd : List Sp) (s : Sp) (k : Nat) (r : Rc) (hr : g[k]? = some r) (t : Sp) (l : List Sp) (h : okS (dnK g rd s k)) (hl : flowsF (g.drop (k + 1)) (rd.drop (k + 1)) (inK g rd s (k + 1)) = some (t :: l)) :
    flowsF (g.drop k) (rd.drop k) (inK g rd s k) = some (upS r (dnK g rd s k) t :: t :: l) := by
  obtain ⟨hk, hr'⟩ := List.getElem?_eq_some_iff.1 hr
  have e : (rd.drop k).headD allS = rd.getD k allS := by
    rw [List.headD_eq_head?_getD, List.head?_drop, List.getD_eq_getElem?_getD]
  have e2 : g.getD k Rc.zero = r := by rw [List.getD_eq_getElem?_getD, hr]; rfl
  rw [List.drop_eq_getElem_cons hk, hr']
  unfold flowsF
  rw [e]
  rw [inK_succ, e2] at hl
  have h' : (cutS (inK g rd s k) (rd.getD k allS)).lo ≤ (cutS (inK g rd s k) (rd.getD k allS)).hi := h
  rw [if_pos h', List.tail_drop]
  show Option.map _ (flowsF (g.drop (k + 1)) (rd.drop (k + 1)) (outS r (dnK g rd s k))) = _
  rw [hl]
  rfl

/-! bounds -/
theorem cutS_sub {a b : Sp} : a.lo ≤ (cutS a b).lo ∧ (cutS a b).hi ≤ a.hi := by simp only [cutS]; omega
theorem outS_fine {r : Rc} {s : Sp} (hr : r.fine) (hs : s.fine 13000000) : (outS r s).fine 2000000 := by
  obtain ⟨⟨h1, h2, h3⟩, ⟨h4, h5, h6⟩, ⟨h7, h8, h9⟩⟩ := hr
  obtain ⟨h10, h11, h12⟩ := hs
  simp only [outS, leastF, mostF, Sp.fine]
  omega
theorem cutS_fine {a b : Sp} {m : Int} (ha : a.fine m) (hb : 0 ≤ b.lo) (h : okS (cutS a b)) : (cutS a b).fine m := by
  obtain ⟨h1, h2, h3⟩ := ha
  simp only [okS, cutS, Sp.fine] at *
  omega

/-! the way up: what a search finds is the reference's -/
section
variable {r : Rc} {f t : Sp}
theorem up_lo {n : Int} (hf : f.lo ≤ f.hi) (h0 : f.lo ≤ n ∧ n ≤ f.hi + 1) (h1 : f.lo < n → ¬ t.lo ≤ mostF r (n - 1)) (h2 : n ≤ f.hi → t.lo ≤ mostF r n) (ht : t.lo ≤ mostF r f.hi) : n = (upS r f t).lo := by
  simp only [upS, mostF] at *
  by_cases hn : n ≤ f.hi
  · have h2 := h2 hn
    by_cases hl : f.lo < n
    · have h1 := h1 hl
      split <;> omega
    · split <;> omega
  · have h1 := h1 (by omega)
    rw [show n - 1 = f.hi by omega] at h1
    exact absurd ht h1
theorem up_hi {n : Int} (hf : f.lo ≤ f.hi) (h0 : f.lo ≤ n ∧ n ≤ f.hi + 1) (h1 : f.lo < n → ¬ t.hi < leastF r (n - 1)) (h2 : n ≤ f.hi → t.hi < leastF r n) (ht : leastF r f.lo ≤ t.hi) : n - 1 = (upS r f t).hi := by
  simp only [upS, leastF] at *
  by_cases hl : f.lo < n
  · have h1 := h1 hl
    by_cases hn : n ≤ f.hi
    · have h2 := h2 hn
      split <;> omega
    · split <;> omega
  · have h2 := h2 (by omega)
    rw [show n = f.lo by omega] at h2
    omega
theorem up_ok (hr : r.fine) (hf : f.lo ≤ f.hi) (ht : t.lo ≤ t.hi) (h1 : leastF r f.lo ≤ t.lo) (h2 : t.hi ≤ mostF r f.hi) : f.lo ≤ (upS r f t).lo ∧ (upS r f t).lo ≤ (upS r f t).hi ∧ (upS r f t).hi ≤ f.hi := by
  obtain ⟨⟨h3, h4, h5⟩, ⟨h6, h7, h8⟩, ⟨h9, h10, h11⟩⟩ := hr
  simp only [upS, leastF, mostF] at *
  split <;> split <;> omega
end
/-- What is found at a shaft lies in what comes there. -/
theorem flowsF_head : ∀ (g : List Rc) (rd : List Sp) (s : Sp) (l : List Sp), (∀ r ∈ g, r.fine) → flowsF g rd s = some l → ∃ t l', l = t :: l' ∧ (cutS s (rd.headD allS)).lo ≤ t.lo ∧ t.lo ≤ t.hi ∧ t.hi ≤ (cutS s (rd.headD allS)).hi
  | [], rd, s, l, _, h => by
    unfold flowsF at h
    split at h
    · rename_i h1
      injection h with h
      exact ⟨_, _, h.symm, Int.le_refl _, h1, Int.le_refl _⟩
    · cases h
  | r :: g, rd, s, l, hg, h => by
    unfold flowsF at h
    split at h
    · rename_i h1
      obtain ⟨l2, hl2, rfl⟩ := Option.map_eq_some_iff.1 h
      obtain ⟨t, l', rfl, h2, h3, h4⟩ := flowsF_head g _ _ l2 (fun r hr => hg r (by simp [hr])) hl2
      obtain ⟨h5, h6⟩ := cutS_sub (a := outS r (cutS s (rd.headD allS))) (b := rd.tail.headD allS)
      obtain ⟨k1, k2, k3⟩ := up_ok (f := cutS s (rd.headD allS)) (t := t) (hg r (by simp)) h1 h3 (Int.le_trans h5 h2) (Int.le_trans h4 h6)
      exact ⟨_, _, rfl, k1, k2, k3⟩
    · cases h

/-! what was read -/
def rdS (n : Nat) (l : List Ga) : List Sp := l.foldl (fun rd x => rd.set x.shaft.toNat (cutS (rd.getD x.shaft.toNat allS) x.flow)) (List.replicate (n + 1) allS)
theorem rdS_snoc (n : Nat) (l : List Ga) (x : Ga) : rdS n (l ++ [x]) = (rdS n l).set x.shaft.toNat (cutS ((rdS n l).getD x.shaft.toNat allS) x.flow) := by simp [rdS]
theorem rdS_len (n : Nat) (l : List Ga) : (rdS n l).length = n + 1 := by
  have : ∀ (l : List Ga) (rd : List Sp), rd.length = n + 1 → (l.foldl (fun rd x => rd.set x.shaft.toNat (cutS (rd.getD x.shaft.toNat allS) x.flow)) rd).length = n + 1 := by
    intro l
    induction l with
    | nil => intro rd h; exact h
    | cons x l ih => intro rd h; exact ih _ (by simpa using h)
  exact this l _ (by simp)
theorem rdS_bd (n : Nat) (l : List Ga) (h : ∀ x ∈ l, x.flow.fine 13000000) : ∀ s ∈ rdS n l, 0 ≤ s.lo ∧ s.lo ≤ 13000000 ∧ 0 ≤ s.hi ∧ s.hi ≤ 13000000 := by
  have : ∀ (l : List Ga) (rd : List Sp), (∀ x ∈ l, x.flow.fine 13000000) → (∀ s ∈ rd, 0 ≤ s.lo ∧ s.lo ≤ 13000000 ∧ 0 ≤ s.hi ∧ s.hi ≤ 13000000) → ∀ s ∈ l.foldl (fun rd x => rd.set x.shaft.toNat (cutS (rd.getD x.shaft.toNat allS) x.flow)) rd, 0 ≤ s.lo ∧ s.lo ≤ 13000000 ∧ 0 ≤ s.hi ∧ s.hi ≤ 13000000 := by
    intro l
    induction l with
    | nil => intro rd _ h; exact h
    | cons x l ih =>
      intro rd h h2
      refine ih _ (fun y hy => h y (by simp [hy])) ?_
      intro s hs
      rcases List.mem_or_eq_of_mem_set hs with hs | rfl
      · exact h2 s hs
      · obtain ⟨h3, h4, h5⟩ := h x (by simp)
        have h6 : 0 ≤ (rd.getD x.shaft.toNat allS).lo ∧ (rd.getD x.shaft.toNat allS).lo ≤ 13000000 ∧ 0 ≤ (rd.getD x.shaft.toNat allS).hi ∧ (rd.getD x.shaft.toNat allS).hi ≤ 13000000 := by
          rw [List.getD_eq_getElem?_getD]
          cases he : rd[x.shaft.toNat]? with
          | none => simp [allS]
          | some y => exact h2 y (List.mem_of_getElem? he)
        simp only [cutS]
        omega
  refine this l _ h ?_
  intro s hs
  rw [List.eq_of_mem_replicate hs]
  simp [allS]
/-- What fits, whatever was read. -/
def fitS (g : List Rc) (l : List Ga) (s : Sp) : Option (List Sp) := flowsF g (rdS g.length l) s
/-- What is lost in each reach. -/
def lostS (g : List Rc) (f : List Sp) : List Sp := (List.range g.length).map fun i => ⟨(f.getD i allS).lo - max 0 (min (f.getD i allS).lo (g.getD i Rc.zero).cap.hi - (g.getD i Rc.zero).leak.lo), (f.getD i allS).hi - max 0 (min (f.getD i allS).hi (g.getD i Rc.zero).cap.lo - (g.getD i Rc.zero).leak.hi)⟩
theorem dnK_bd {g : List Rc} {rd : List Sp} {s : Sp} (hg : ∀ r ∈ g, r.fine) (hrd : ∀ x ∈ rd, 0 ≤ x.lo ∧ x.lo ≤ 13000000 ∧ 0 ≤ x.hi ∧ x.hi ≤ 13000000) (hs : s.fine 1000000) : ∀ k, k ≤ g.length → (∀ j, j < k → okS (dnK g rd s j)) → (inK g rd s k).fine 2000000 ∧ 0 ≤ (dnK g rd s k).lo ∧ (dnK g rd s k).lo ≤ 13000000 ∧ 0 ≤ (dnK g rd s k).hi ∧ (dnK g rd s k).hi ≤ 13000000 := by
  have hx : ∀ k, 0 ≤ (rd.getD k allS).lo ∧ (rd.getD k allS).lo ≤ 13000000 ∧ 0 ≤ (rd.getD k allS).hi ∧ (rd.getD k allS).hi ≤ 13000000 := fun k => by
    rw [List.getD_eq_getElem?_getD]
    cases he : rd[k]? with
    | none => simp [allS]
    | some y => exact hrd y (List.mem_of_getElem? he)
  have hcut : ∀ k, (inK g rd s k).fine 2000000 → 0 ≤ (dnK g rd s k).lo ∧ (dnK g rd s k).lo ≤ 13000000 ∧ 0 ≤ (dnK g rd s k).hi ∧ (dnK g rd s k).hi ≤ 13000000 := fun k h => by
    obtain ⟨h1, h2, h3⟩ := h
    have := hx k
    simp only [dnK, cutS]
    omega
  intro k
  induction k with
  | zero => intro _ _; have h : (inK g rd s 0).fine 2000000 := by (obtain ⟨h1, h2, h3⟩ := hs; exact ⟨h1, h2, by show s.hi ≤ _; omega⟩)
            exact ⟨h, hcut 0 h⟩
  | succ k ih =>
    intro hk hj
    obtain ⟨h1, h2⟩ := ih (by omega) (fun j hjk => hj j (by omega))
    have hok := hj k (by omega)
    have hr : (g.getD k Rc.zero).fine := by
      rw [List.getD_eq_getElem?_getD, List.getElem?_eq_getElem (by omega)]
      exact hg _ (List.getElem_mem _)
    have h : (inK g rd s (k + 1)).fine 2000000 := by
      rw [inK_succ]
      refine outS_fine hr ⟨h2.1, hok, h2.2.2.2⟩
    exact ⟨h, hcut _ h⟩
end Go.Proofs.Ytgklcilpohkpkaa
namespace Go.Proofs.Ytgklcilpohkpkaa
open Go.RowKit Go.Shelf
def inS (n : Int) (s : Sp) : Prop := s.lo ≤ n ∧ n ≤ s.hi
/-- Flows that fit: in what comes in, in what was read, and each one out of the one above it. -/
structure Feas (g : List Rc) (rd : List Sp) (s : Sp) (ns : Nat → Int) : Prop where
  start : inS (ns 0) s
  read : ∀ k, k ≤ g.length → inS (ns k) (rd.getD k allS)
  step : ∀ k r, g[k]? = some r → leastF r (ns k) ≤ ns (k + 1) ∧ ns (k + 1) ≤ mostF r (ns k)
theorem Feas.tail {r : Rc} {g : List Rc} {rd : List Sp} {s : Sp} {ns : Nat → Int} (h : Feas (r :: g) rd s ns) (hr : r.fine) : Feas g rd.tail (outS r (cutS s (rd.headD allS))) (fun k => ns (k + 1)) := by
  have h0 := h.read 0 (by simp)
  have h1 := h.start
  have h2 := h.step 0 r rfl
  have e : rd.getD 0 allS = rd.headD allS := by cases rd <;> rfl
  rw [e] at h0
  obtain ⟨⟨h3, h4, h5⟩, ⟨h6, h7, h8⟩, ⟨h9, h10, h11⟩⟩ := hr
  refine ⟨?_, fun k hk => ?_, fun k r' hr' => ?_⟩
  · simp only [inS, outS, cutS, leastF, mostF] at *
    omega
  · have := h.read (k + 1) (by simpa using hk)
    cases rd <;> simpa [List.getD] using this
  · exact h.step (k + 1) r' (by simpa using hr')
theorem up_in {r : Rc} {f t : Sp} {n m : Int} (hr : r.fine) (hn : inS n f) (hm : inS m t) (h : leastF r n ≤ m ∧ m ≤ mostF r n) : inS n (upS r f t) := by
  obtain ⟨⟨h3, h4, h5⟩, ⟨h6, h7, h8⟩, ⟨h9, h10, h11⟩⟩ := hr
  simp only [inS, upS, leastF, mostF] at *
  split <;> split <;> omega
/-- What flows lies in what is told. -/
theorem feas_in : ∀ (g : List Rc) (rd : List Sp) (s : Sp) (ns : Nat → Int), (∀ r ∈ g, r.fine) → Feas g rd s ns → ∃ l, flowsF g rd s = some l ∧ ∀ k, k ≤ g.length → inS (ns k) (l.getD k allS)
  | [], rd, s, ns, _, h => by
    have h0 := h.read 0 (by simp)
    have h1 := h.start
    have e : rd.getD 0 allS = rd.headD allS := by cases rd <;> rfl
    rw [e] at h0
    unfold flowsF
    have h2 : inS (ns 0) (cutS s (rd.headD allS)) := by simp only [inS, cutS] at *; omega
    rw [if_pos (Int.le_trans h2.1 h2.2)]
    refine ⟨_, rfl, fun k hk => ?_⟩
    obtain rfl : k = 0 := by simpa using hk
    exact h2
  | r :: g, rd, s, ns, hg, h => by
    have h0 := h.read 0 (by simp)
    have h1 := h.start
    have e : rd.getD 0 allS = rd.headD allS := by cases rd <;> rfl
    rw [e] at h0
    have hr := hg r (by simp)
    obtain ⟨l, hl, hin⟩ := feas_in g _ _ _ (fun r hr => hg r (by simp [hr])) (h.tail hr)
    have h2 : inS (ns 0) (cutS s (rd.headD allS)) := by simp only [inS, cutS] at *; omega
    unfold flowsF
    rw [if_pos (Int.le_trans h2.1 h2.2), hl]
    refine ⟨_, rfl, fun k hk => ?_⟩
    cases k with
    | zero =>
      have h3 := hin 0 (by simp)
      have h4 : inS (ns 1) (l.headD allS) := by cases l <;> simpa [List.getD] using h3
      exact up_in hr h2 h4 (h.step 0 r rfl)
    | succ k => simpa [List.getD] using hin k (by simpa using hk)
/-- Out of what may come: a number that leads there. -/
theorem back_one {r : Rc} {f : Sp} {m : Int} (hr : r.fine) (hf : f.lo ≤ f.hi) (hm : inS m (outS r f)) : ∃ n, inS n f ∧ leastF r n ≤ m ∧ m ≤ mostF r n := by
  obtain ⟨⟨h3, h4, h5⟩, ⟨h6, h7, h8⟩, ⟨h9, h10, h11⟩⟩ := hr
  simp only [inS, outS, leastF, mostF] at *
  by_cases h : m ≤ r.gain.hi
  · exact ⟨f.lo, by omega⟩
  · by_cases h2 : f.lo ≤ m - r.gain.hi + r.leak.lo
    · exact ⟨m - r.gain.hi + r.leak.lo, by omega⟩
    · exact ⟨f.lo, by omega⟩
theorem fore_one {r : Rc} {f t : Sp} {n : Int} (hr : r.fine) (ht : t.lo ≤ t.hi) (h1 : leastF r f.lo ≤ t.lo) (h2 : t.hi ≤ mostF r f.hi) (hf : f.lo ≤ f.hi) (hn : inS n (upS r f t)) : ∃ m, inS m t ∧ leastF r n ≤ m ∧ m ≤ mostF r n := by
  obtain ⟨⟨h3, h4, h5⟩, ⟨h6, h7, h8⟩, ⟨h9, h10, h11⟩⟩ := hr
  have hlm : leastF r n ≤ mostF r n := by simp only [leastF, mostF]; omega
  have ha : leastF r n ≤ t.hi := by
    simp only [inS, upS, leastF, mostF] at *
    split at hn <;> split at hn <;> omega
  have hb : t.lo ≤ mostF r n := by
    simp only [inS, upS, leastF, mostF] at *
    split at hn <;> split at hn <;> omega
  exact ⟨max t.lo (leastF r n), by simp only [inS]; omega⟩
/-- The same flows, with another number ahead. -/
def consN (n : Int) (ns : Nat → Int) : Nat → Int | 0 => n | k + 1 => ns k
theorem Feas.cons {r : Rc} {g : List Rc} {rd : List Sp} {s : Sp} {ns : Nat → Int} {n : Int} {s' : Sp} (h : Feas g rd.tail s' ns) (hn : inS n (cutS s (rd.headD allS))) (hs : leastF r n ≤ ns 0 ∧ ns 0 ≤ mostF r n) : Feas (r :: g) rd s (consN n ns) := by
  refine ⟨?_, fun k hk => ?_, fun k r' hr' => ?_⟩
  · simp only [inS, cutS, consN] at *; omega
  · cases k with
    | zero =>
      have e : rd.getD 0 allS = rd.headD allS := by cases rd <;> rfl
      rw [e]
      simp only [inS, cutS, consN] at *; omega
    | succ k =>
      have := h.read k (by simpa using hk)
      cases rd <;> simpa [List.getD, consN] using this
  · cases k with
    | zero =>
      simp at hr'
      subst hr'
      exact hs
    | succ k => exact h.step k r' (by simpa using hr')
/-- Each number that is told is reached. -/
theorem feas_of : ∀ (k : Nat) (g : List Rc) (rd : List Sp) (s : Sp) (l : List Sp) (v : Int), (∀ r ∈ g, r.fine) → k ≤ g.length → flowsF g rd s = some l → inS v (l.getD k allS) → ∃ ns, Feas g rd s ns ∧ ns k = v := by
  -- from a shaft on
  have fore : ∀ (g : List Rc) (rd : List Sp) (s : Sp) (l : List Sp) (v : Int), (∀ r ∈ g, r.fine) → flowsF g rd s = some l → inS v (l.headD allS) → ∃ ns, Feas g rd s ns ∧ ns 0 = v := by
    intro g
    induction g with
    | nil =>
      intro rd s l v _ h hv
      unfold flowsF at h
      split at h
      · injection h with h
        subst h
        have e : rd.getD 0 allS = rd.headD allS := by cases rd <;> rfl
        have hv' : inS v (cutS s (rd.headD allS)) := hv
        refine ⟨fun _ => v, ⟨?_, fun k hk => ?_, fun k r hr => by simp at hr⟩, rfl⟩
        · simp only [inS, cutS] at *; omega
        · obtain rfl : k = 0 := by simpa using hk
          rw [e]
          simp only [inS, cutS] at *; omega
      · cases h
    | cons r g ih =>
      intro rd s l v hg h hv
      unfold flowsF at h
      split at h
      · rename_i h1
        obtain ⟨l2, hl2, rfl⟩ := Option.map_eq_some_iff.1 h
        have hg' : ∀ r ∈ g, r.fine := fun r hr => hg r (by simp [hr])
        obtain ⟨t, l', rfl, h2, h3, h4⟩ := flowsF_head g _ _ l2 hg' hl2
        obtain ⟨h5, h6⟩ := cutS_sub (a := outS r (cutS s (rd.headD allS))) (b := rd.tail.headD allS)
        have hv' : inS v (upS r (cutS s (rd.headD allS)) t) := hv
        obtain ⟨k1, k2, k3⟩ := up_ok (f := cutS s (rd.headD allS)) (t := t) (hg r (by simp)) h1 h3 (Int.le_trans h5 h2) (Int.le_trans h4 h6)
        obtain ⟨m, hm, hs⟩ := fore_one (hg r (by simp)) h3 (Int.le_trans h5 h2) (Int.le_trans h4 h6) h1 hv'
        obtain ⟨ns, hns, hn0⟩ := ih _ _ _ m hg' hl2 hm
        exact ⟨consN v ns, hns.cons ⟨Int.le_trans k1 hv'.1, Int.le_trans hv'.2 k3⟩ (by rw [hn0]; exact hs), rfl⟩
      · cases h
  intro k
  induction k with
  | zero =>
    intro g rd s l v hg _ h hv
    exact fore g rd s l v hg h (by cases l <;> simpa [List.getD] using hv)
  | succ k ih =>
    intro g rd s l v hg hk h hv
    cases g with
    | nil => simp at hk
    | cons r g =>
      have h' := h
      unfold flowsF at h
      split at h
      · rename_i h1
        obtain ⟨l2, hl2, rfl⟩ := Option.map_eq_some_iff.1 h
        have hg' : ∀ r ∈ g, r.fine := fun r hr => hg r (by simp [hr])
        obtain ⟨ns, hns, hnk⟩ := ih g _ _ l2 v hg' (by simpa using hk) hl2 (by simpa [List.getD] using hv)
        obtain ⟨n, hn, hs⟩ := back_one (hg r (by simp)) h1 hns.start
        exact ⟨consN n ns, hns.cons hn hs, hnk⟩
      · cases h
/-- A gauge that reads one number at one shaft. -/
theorem feas_at {g : List Rc} {rd : List Sp} {s : Sp} {k : Nat} (hg : ∀ r ∈ g, r.fine) (hk : k ≤ g.length) (hrd : rd.length = g.length + 1) (v : Int) :
    (flowsF g (rd.set k (cutS (rd.getD k allS) ⟨v, v⟩)) s).isSome = true ↔ ∃ l, flowsF g rd s = some l ∧ inS v (l.getD k allS) := by
  have hset : (rd.set k (cutS (rd.getD k allS) ⟨v, v⟩)).getD k allS = cutS (rd.getD k allS) ⟨v, v⟩ := by
    rw [List.getD_eq_getElem?_getD, List.getElem?_set_self (by omega)]; rfl
  have hoth : ∀ j, j ≠ k → (rd.set k (cutS (rd.getD k allS) ⟨v, v⟩)).getD j allS = rd.getD j allS := fun j hj => by
    rw [List.getD_eq_getElem?_getD, List.getElem?_set_ne (Ne.symm hj), List.getD_eq_getElem?_getD]
  constructor
  · intro h
    obtain ⟨l, hl⟩ := Option.isSome_iff_exists.1 h
    obtain ⟨t, l', rfl, h2, h3, h4⟩ := flowsF_head _ _ _ _ hg hl
    obtain ⟨ns, hns, _⟩ := feas_of 0 g _ s _ t.lo hg (by omega) hl ⟨Int.le_refl _, h3⟩
    have hv := hns.read k hk
    rw [hset] at hv
    have hF : Feas g rd s ns := ⟨hns.start, fun j hj => by
      by_cases e : j = k
      · subst e
        simp only [inS, cutS] at *; omega
      · rw [← hoth j e]; exact hns.read j hj, hns.step⟩
    obtain ⟨l2, hl2, hin⟩ := feas_in g rd s ns hg hF
    refine ⟨l2, hl2, ?_⟩
    have := hin k hk
    simp only [inS, cutS] at hv this ⊢
    omega
  · rintro ⟨l, hl, hv⟩
    obtain ⟨ns, hns, hnk⟩ := feas_of k g rd s l v hg hk hl hv
    have hF : Feas g (rd.set k (cutS (rd.getD k allS) ⟨v, v⟩)) s ns := ⟨hns.start, fun j hj => by
      by_cases e : j = k
      · subst e
        rw [hset]
        have := hns.read j hj
        simp only [inS, cutS] at *; omega
      · rw [hoth j e]; exact hns.read j hj, hns.step⟩
    obtain ⟨l2, hl2, _⟩ := feas_in g _ s ns hg hF
    rw [hl2]; rfl
/-- What is known better is told no wider. -/
def subS (a b : Sp) : Prop := b.lo ≤ a.lo ∧ a.hi ≤ b.hi
def Rc.sub (a b : Rc) : Prop := subS a.cap b.cap ∧ subS a.leak b.leak ∧ subS a.gain b.gain
theorem Feas.wider {g g' : List Rc} {rd rd' : List Sp} {s : Sp} {ns : Nat → Int} (h : Feas g rd s ns) (hl : g.length = g'.length) (hg : ∀ (k : Nat) (r r' : Rc), g[k]? = some r → g'[k]? = some r' → Rc.sub r r') (hrd : ∀ k, subS (rd.getD k allS) (rd'.getD k allS)) : Feas g' rd' s ns := by
  refine ⟨h.start, fun k hk => ?_, fun k r' hr' => ?_⟩
  · have h1 := h.read k (by omega)
    have h2 := hrd k
    simp only [inS, subS] at *; omega
  · have hk : k < g.length := by rw [hl]; exact (List.getElem?_eq_some_iff.1 hr').1
    have h1 := h.step k _ (List.getElem?_eq_getElem hk)
    obtain ⟨h2, h3, h4⟩ := hg k _ _ (List.getElem?_eq_getElem hk) hr'
    simp only [leastF, mostF, subS] at *; omega
theorem flows_wider {g g' : List Rc} {rd rd' : List Sp} {s : Sp} {l : List Sp} (hl : g.length = g'.length) (hg1 : ∀ r ∈ g, r.fine) (hg2 : ∀ r ∈ g', r.fine) (hg : ∀ (k : Nat) (r r' : Rc), g[k]? = some r → g'[k]? = some r' → Rc.sub r r') (hrd : ∀ k, subS (rd.getD k allS) (rd'.getD k allS)) (h : flowsF g rd s = some l) (hne : ∀ k, k ≤ g.length → (l.getD k allS).lo ≤ (l.getD k allS).hi) :
    ∃ l', flowsF g' rd' s = some l' ∧ ∀ k, k ≤ g.length → subS (l.getD k allS) (l'.getD k allS) := by
  have key : ∀ k, k ≤ g.length → ∀ v, inS v (l.getD k allS) → ∃ l', flowsF g' rd' s = some l' ∧ inS v (l'.getD k allS) := fun k hk v hv => by
    obtain ⟨ns, hns, hnk⟩ := feas_of k g rd s l v hg1 hk h hv
    obtain ⟨l', hl', hin⟩ := feas_in g' rd' s ns hg2 (hns.wider hl hg hrd)
    exact ⟨l', hl', by rw [← hnk]; exact hin k (by omega)⟩
  obtain ⟨l', hl', _⟩ := key 0 (by omega) _ ⟨Int.le_refl _, hne 0 (by omega)⟩
  refine ⟨l', hl', fun k hk => ?_⟩
  obtain ⟨l1, h1, h2⟩ := key k hk _ ⟨Int.le_refl _, hne k hk⟩
  obtain ⟨l3, h3, h4⟩ := key k hk _ ⟨hne k hk, Int.le_refl _⟩
  rw [hl'] at h1 h3
  injection h1 with h1
  injection h3 with h3
  subst h1 h3
  exact ⟨h2.1, h4.2⟩
theorem flowsF_ne : ∀ (g : List Rc) (rd : List Sp) (s : Sp) (l : List Sp), (∀ r ∈ g, r.fine) → flowsF g rd s = some l → ∀ k, k ≤ g.length → (l.getD k allS).lo ≤ (l.getD k allS).hi
  | g, rd, s, l, hg, h, 0, _ => by
    obtain ⟨t, l', rfl, h2, h3, h4⟩ := flowsF_head g rd s l hg h
    exact h3
  | [], rd, s, l, hg, h, k + 1, hk => by simp at hk
  | r :: g, rd, s, l, hg, h, k + 1, hk => by
    unfold flowsF at h
    split at h
    · obtain ⟨l2, hl2, rfl⟩ := Option.map_eq_some_iff.1 h
      simpa [List.getD] using flowsF_ne g _ _ l2 (fun r hr => hg r (by simp [hr])) hl2 k (by simpa using hk)
    · cases h
end Go.Proofs.Ytgklcilpohkpkaa
namespace Go.Proofs.Ytgklcilpohkpkaa
open Go.RowKit Go.Shelf
/-- What flows out of a reach in truth. -/
def nextF (n c k m : Int) : Int := max 0 (min n c - k) + m
theorem next_step {r : Rc} {n c k m : Int} (hc : inS c r.cap) (hk : inS k r.leak) (hm : inS m r.gain) : leastF r n ≤ nextF n c k m ∧ nextF n c k m ≤ mostF r n := by
  simp only [inS, leastF, mostF, nextF] at *; omega
theorem lost_in {r : Rc} {f : Sp} {n c k m : Int} (h0 : 0 ≤ n) (hr : r.fine) (hn : inS n f) (hc : inS c r.cap) (hk : inS k r.leak) (hm : inS m r.gain) :
    inS (n + m - nextF n c k m) ⟨f.lo - max 0 (min f.lo r.cap.hi - r.leak.lo), f.hi - max 0 (min f.hi r.cap.lo - r.leak.hi)⟩ ∧ 0 ≤ n + m - nextF n c k m := by
  obtain ⟨⟨h3, h4, h5⟩, ⟨h6, h7, h8⟩, ⟨h9, h10, h11⟩⟩ := hr
  simp only [inS, nextF] at *; omega
/-- How many of some spans hold a number. -/
def holds (ss : List Sp) (n : Int) : Nat := (ss.filter fun s => decide (s.lo ≤ n) && decide (n ≤ s.hi)).length
def crowdS (ss : List Sp) : Nat := ss.foldl (fun m s => max m (holds ss s.lo)) 0
theorem foldl_max_ge {α : Type} (f : α → Nat) : ∀ (l : List α) (m : Nat), m ≤ l.foldl (fun m s => max m (f s)) m ∧ ∀ x ∈ l, f x ≤ l.foldl (fun m s => max m (f s)) m
  | [], m => ⟨Nat.le_refl _, fun x h => by cases h⟩
  | y :: l, m => by
    obtain ⟨h1, h2⟩ := foldl_max_ge f l (max m (f y))
    refine ⟨?_, fun x hx => ?_⟩
    · simp only [List.foldl_cons]; omega
    · simp only [List.foldl_cons]
      rcases List.mem_cons.1 hx with rfl | hx
      · omega
      · exact h2 x hx
theorem foldl_max_at {α : Type} (f : α → Nat) : ∀ (l : List α) (m : Nat), l.foldl (fun m s => max m (f s)) m = m ∨ ∃ x ∈ l, l.foldl (fun m s => max m (f s)) m = f x
  | [], m => .inl rfl
  | y :: l, m => by
    simp only [List.foldl_cons]
    rcases foldl_max_at f l (max m (f y)) with h | ⟨x, hx, h⟩
    · rw [h]
      by_cases hm : f y ≤ m
      · exact .inl (by omega)
      · exact .inr ⟨y, by simp, by omega⟩
    · exact .inr ⟨x, by simp [hx], h⟩
theorem holds_crowd (ss : List Sp) (s : Sp) (h : s ∈ ss) : holds ss s.lo ≤ crowdS ss := (foldl_max_ge (fun s => holds ss s.lo) ss 0).2 s h
theorem filter_len_le {α : Type} {p q : α → Bool} (l : List α) (h : ∀ x ∈ l, p x = true → q x = true) : (l.filter p).length ≤ (l.filter q).length := by
  induction l with
  | nil => simp
  | cons x l ih =>
    have ih := ih (fun y hy => h y (by simp [hy]))
    have hx := h x (by simp)
    simp only [List.filter_cons]
    split
    · rename_i hp; rw [if_pos (hx hp)]; simpa using ih
    · split
      · simp; omega
      · exact ih
/-- The most that have a number in common have a least one in common. -/
theorem holds_le (ss : List Sp) (n : Int) : holds ss n ≤ crowdS ss := by
  by_cases h0 : holds ss n = 0
  · omega
  · -- of those that hold n, the one that begins last
    have key : ∀ l : List Sp, (l.filter fun s => decide (s.lo ≤ n) && decide (n ≤ s.hi)).length ≠ 0 → ∃ s ∈ l, (s.lo ≤ n ∧ n ≤ s.hi) ∧ ∀ t ∈ l, t.lo ≤ n → n ≤ t.hi → t.lo ≤ s.lo := by
      intro l
      induction l with
      | nil => intro h; simp at h
      | cons x l ih =>
        intro h
        by_cases hx : x.lo ≤ n ∧ n ≤ x.hi
        · by_cases hl : (l.filter fun s => decide (s.lo ≤ n) && decide (n ≤ s.hi)).length = 0
          · refine ⟨x, by simp, hx, fun t ht h1 h2 => ?_⟩
            rcases List.mem_cons.1 ht with rfl | ht
            · exact Int.le_refl _
            · exfalso
              have : t ∈ l.filter fun s => decide (s.lo ≤ n) && decide (n ≤ s.hi) := List.mem_filter.2 ⟨ht, by simp [h1, h2]⟩
              rw [List.length_eq_zero_iff.1 hl] at this
              cases this
          · obtain ⟨s, hs, hsn, hmax⟩ := ih hl
            by_cases hle : x.lo ≤ s.lo
            · refine ⟨s, by simp [hs], hsn, fun t ht h1 h2 => ?_⟩
              rcases List.mem_cons.1 ht with rfl | ht
              · exact hle
              · exact hmax t ht h1 h2
            · refine ⟨x, by simp, hx, fun t ht h1 h2 => ?_⟩
              rcases List.mem_cons.1 ht with rfl | ht
              · exact Int.le_refl _
              · have := hmax t ht h1 h2; omega
        · have hl : (l.filter fun s => decide (s.lo ≤ n) && decide (n ≤ s.hi)).length ≠ 0 := by
            rw [List.filter_cons, if_neg (by simpa using hx)] at h
            exact h
          obtain ⟨s, hs, hsn, hmax⟩ := ih hl
          refine ⟨s, by simp [hs], hsn, fun t ht h1 h2 => ?_⟩
          rcases List.mem_cons.1 ht with rfl | ht
          · exact absurd ⟨h1, h2⟩ hx
          · exact hmax t ht h1 h2
    obtain ⟨s, hs, hsn, hmax⟩ := key ss h0
    refine Nat.le_trans (filter_len_le (q := fun t : Sp => decide (t.lo ≤ s.lo) && decide (s.lo ≤ t.hi)) ss fun t ht hp => ?_) (holds_crowd ss s hs)
    simp only [Bool.and_eq_true, decide_eq_true_eq] at hp ⊢
    have := hmax t ht hp.1 hp.2
    omega
theorem crowd_at (ss : List Sp) : crowdS ss = 0 ∨ ∃ s ∈ ss, crowdS ss = holds ss s.lo := foldl_max_at _ _ _
theorem crowd_perm {ss tt : List Sp} (h : List.Perm ss tt) : crowdS ss = crowdS tt := by
  have hh : ∀ n, holds ss n = holds tt n := fun n => (h.filter _).length_eq
  have one : ∀ {a b : List Sp}, List.Perm a b → crowdS a ≤ crowdS b := fun {a b} hp => by
    have hh : ∀ n, holds a n = holds b n := fun n => (hp.filter _).length_eq
    rcases crowd_at a with h1 | ⟨s, hs, h1⟩
    · omega
    · rw [h1, hh]; exact holds_le b _
  exact Nat.le_antisymm (one h) (one h.symm)
end Go.Proofs.Ytgklcilpohkpkaa
namespace Go.Proofs.Ytgklcilpohkpkaa
open Go.RowKit Go.Shelf
def fallR (r : Rc) (t : Sp) : Rc := ⟨⟨min r.cap.lo t.lo, min r.cap.hi t.hi⟩, r.leak, r.gain⟩
def fallS (g : List Rc) (i : Nat) (t : Sp) : List Rc := g.set i (fallR (g.getD i Rc.zero) t)
/-- The flows that fit with a fall in reach i. -/
def fitF (g : List Rc) (s : Sp) (l : List Ga) (t : Sp) (i : Nat) : Option (List Sp) := fitS (fallS g i t) l s
def falN (g : List Rc) (s : Sp) (l : List Ga) (t : Sp) (k : Nat) : List Nat := (List.range k).filter fun i => (fitF g s l t i).isSome
def falE (g : List Rc) (s : Sp) (l : List Ga) (t : Sp) : Int := if gEnter g s l = 0 then (if Sp.ok 0 1000000 t then (if falN g s l t g.length = [] then 6 else 0) else 2) else gEnter g s l
def falL (g : List Rc) (s : Sp) (l : List Ga) (t : Sp) : List Int := if falE g s l t = 0 then (falN g s l t g.length).map Int.ofNat else []
def falW (g : List Rc) (s : Sp) (l : List Ga) (t : Sp) : Bool := if falE g s l t = 0 then (fitS g l s).isSome else false
/-- What may flow at shaft k, for each one that is suspected. -/
def hereK (g : List Rc) (s : Sp) (l : List Ga) (t : Sp) (k : Nat) : List Sp := (falN g s l t g.length).map fun i => ((fitF g s l t i).getD []).getD k allS
def nextGo (g : List Rc) (s : Sp) (l : List Ga) (t : Sp) : Nat → Nat × Nat
  | 0 => (0, (falN g s l t g.length).length + 1)
  | k + 1 => if crowdS (hereK g s l t k) < (nextGo g s l t k).2 then (k, crowdS (hereK g s l t k)) else nextGo g s l t k
def nextS (g : List Rc) (s : Sp) (l : List Ga) (t : Sp) : Nat × Nat := if falE g s l t = 0 then nextGo g s l t (g.length + 1) else (0, 0)
section
variable {g : List Rc} {s : Sp} {l : List Ga} {t : Sp}
theorem fallS_len (g : List Rc) (i : Nat) (t : Sp) : (fallS g i t).length = g.length := by simp [fallS]
theorem fallR_fine {r : Rc} {t : Sp} (hr : r.fine) (ht : t.fine 1000000) : (fallR r t).fine := by
  obtain ⟨⟨h1, h2, h3⟩, h4, h5⟩ := hr
  obtain ⟨h6, h7, h8⟩ := ht
  exact ⟨⟨by show 0 ≤ min _ _; omega, by show min _ _ ≤ min _ _; omega, by show min _ _ ≤ _; omega⟩, h4, h5⟩
theorem fallS_fine {i : Nat} (hg : ∀ r ∈ g, r.fine) (ht : t.fine 1000000) : ∀ r ∈ fallS g i t, r.fine := by
  intro r hr
  rcases List.mem_or_eq_of_mem_set hr with h | h
  · exact hg r h
  · rw [h]
    refine fallR_fine ?_ ht
    rw [List.getD_eq_getElem?_getD]
    cases he : g[i]? with
    | none => exact ⟨by simp [Rc.zero, Sp.fine], by simp [Rc.zero, Sp.fine], by simp [Rc.zero, Sp.fine]⟩
    | some y => exact hg y (List.mem_of_getElem? he)
theorem falN_succ (k : Nat) : falN g s l t (k + 1) = if (fitF g s l t k).isSome then falN g s l t k ++ [k] else falN g s l t k := by
  unfold falN
  rw [List.range_succ, List.filter_append]
  cases h : (fitF g s l t k).isSome <;> simp [h]
theorem falN_len (k : Nat) : (falN g s l t k).length ≤ k := by
  unfold falN
  exact Nat.le_trans (List.length_filter_le _ _) (by simp)
theorem mem_falN {k i : Nat} : i ∈ falN g s l t k ↔ i < k ∧ (fitF g s l t i).isSome = true := by simp [falN]
theorem nextGo_le (k : Nat) : (nextGo g s l t k).2 ≤ (falN g s l t g.length).length + 1 ∧ (nextGo g s l t k).1 ≤ k := by
  induction k with
  | zero => exact ⟨Nat.le_refl _, Nat.le_refl _⟩
  | succ k ih =>
    unfold nextGo
    split
    · simp only; omega
    · omega
theorem foldl_max_le {α : Type} (f : α → Nat) (b : Nat) : ∀ (l : List α) (m : Nat), m ≤ b → (∀ x ∈ l, f x ≤ b) → l.foldl (fun m s => max m (f s)) m ≤ b
  | [], m, h, _ => h
  | x :: l, m, h, h2 => by
    rw [List.foldl_cons]
    exact foldl_max_le f b l _ (by have := h2 x (by simp); omega) (fun y hy => h2 y (by simp [hy]))
theorem holds_len (ss : List Sp) (n : Int) : holds ss n ≤ ss.length := List.length_filter_le _ _
theorem crowd_len (ss : List Sp) : crowdS ss ≤ ss.length := foldl_max_le _ _ _ _ (by omega) fun x _ => holds_len ss x.lo
theorem hereK_len (k : Nat) : (hereK g s l t k).length = (falN g s l t g.length).length := by simp [hereK]
end
end Go.Proofs.Ytgklcilpohkpkaa
