/- Gallery: what flows in truth lies in what is told; how many spans have a number in common: plain. No program is named here. -/
import Derived.Test.YtkmocikcohhdoaaF4
set_option linter.unusedVariables false
set_option linter.unusedSimpArgs false
namespace Go.Proofs.Ytkmocikcohhdoaa
open Go.RowKit Go.Shelf
/-- What flows out of a reach in truth. -/
def nextF (n c k m : Int) : Int := max 0 (min n c - k) + m
theorem next_step {r : Rc} {n c k m : Int} (hc : inS c r.cap) (hk : inS k r.leak) (hm : inS m r.gain) : leastF r n ≤ nextF n c k m ∧ nextF n c k m ≤ mostF r n := by
  simp only [inS, leastF, mostF, nextF] at *; omega
theorem lost_in {r : Rc} {f : Sp} {n c k m : Int} (h0 : 0 ≤ n) (hr : r.fine) (hn : inS n f) (hc : inS c r.cap) (hk : inS k r.leak) (hm : inS m r.gain) :
    inS (n + m - nextF n c k m) ⟨f.lo - max 0 (min f.lo r.cap.hi - r.leak.lo), f.hi - max 0 (min f.hi r.cap.lo - r.leak.hi)⟩ ∧ 0 ≤ n + m - nextF n c k m := by
  obtain ⟨⟨h3, h4, h5⟩, ⟨h6, h7, h8⟩, ⟨h9, h10, h11⟩⟩ := hr
  simp only [inS, nextF] at *; omega
/-- How many of some spans hold a number. -/
def holds (ss : List Sp) (n : Int) : Nat := (ss.filter fun s => decide (s.lo ≤ n) && decide (n ≤ s.hi)).length
def crowdS (ss : List Sp) : Nat := ss.foldl (fun m s => max m (holds ss s.lo)) 0
theorem foldl_max_ge {α : Type} (f : α → Nat) : ∀ (l : List α) (m : Nat), m ≤ l.foldl (fun m s => max m (f s)) m ∧ ∀ x ∈ l, f x ≤ l.foldl (fun m s => max m (f s)) m
  | [], m => ⟨Nat.le_refl _, fun x h => by cases h⟩
  | y :: l, m => by
    obtain ⟨h1, h2⟩ := foldl_max_ge f l (max m (f y))
    refine ⟨?_, fun x hx => ?_⟩
    · simp only [List.foldl_cons]; omega
    · simp only [List.foldl_cons]
      rcases List.mem_cons.1 hx with rfl | hx
      · omega
      · exact h2 x hx
theorem foldl_max_at {α : Type} (f : α → Nat) : ∀ (l : List α) (m : Nat), l.foldl (fun m s => max m (f s)) m = m ∨ ∃ x ∈ l, l.foldl (fun m s => max m (f s)) m = f x
  | [], m => .inl rfl
  | y :: l, m => by
    simp only [List.foldl_cons]
    rcases foldl_max_at f l (max m (f y)) with h | ⟨x, hx, h⟩
    · rw [h]
      by_cases hm : f y ≤ m
      · exact .inl (by omega)
      · exact .inr ⟨y, by simp, by omega⟩
    · exact .inr ⟨x, by simp [hx], h⟩
theorem holds_crowd (ss : List Sp) (s : Sp) (h : s ∈ ss) : holds ss s.lo ≤ crowdS ss := (foldl_max_ge (fun s => holds ss s.lo) ss 0).2 s h
theorem filter_len_le {α : Type} {p q : α → Bool} (l : List α) (h : ∀ x ∈ l, p x = true → q x = true) : (l.filter p).length ≤ (l.filter q).length := by
  induction l with
  | nil => simp
  | cons x l ih =>
    have ih := ih (fun y hy => h y (by simp [hy]))
    have hx := h x (by simp)
    simp only [List.filter_cons]
    split
    · rename_i hp; rw [if_pos (hx hp)]; simpa using ih
    · split
      · simp; omega
      · exact ih
/-- The most that have a number in common have a least one in common. -/
theorem holds_le (ss : List Sp) (n : Int) : holds ss n ≤ crowdS ss := by
  by_cases h0 : holds ss n = 0
  · omega
  · -- of those that hold n, the one that begins last
    have key : ∀ l : List Sp, (l.filter fun s => decide (s.lo ≤ n) && decide (n ≤ s.hi)).length ≠ 0 → ∃ s ∈ l, (s.lo ≤ n ∧ n ≤ s.hi) ∧ ∀ t ∈ l, t.lo ≤ n → n ≤ t.hi → t.lo ≤ s.lo := by
      intro l
      induction l with
      | nil => intro h; simp at h
      | cons x l ih =>
        intro h
        by_cases hx : x.lo ≤ n ∧ n ≤ x.hi
        · by_cases hl : (l.filter fun s => decide (s.lo ≤ n) && decide (n ≤ s.hi)).length = 0
          · refine ⟨x, by simp, hx, fun t ht h1 h2 => ?_⟩
            rcases List.mem_cons.1 ht with rfl | ht
            · exact Int.le_refl _
            · exfalso
              have : t ∈ l.filter fun s => decide (s.lo ≤ n) && decide (n ≤ s.hi) := List.mem_filter.2 ⟨ht, by simp [h1, h2]⟩
              rw [List.length_eq_zero_iff.1 hl] at this
              cases this
          · obtain ⟨s, hs, hsn, hmax⟩ := ih hl
            by_cases hle : x.lo ≤ s.lo
            · refine ⟨s, by simp [hs], hsn, fun t ht h1 h2 => ?_⟩
              rcases List.mem_cons.1 ht with rfl | ht
              · exact hle
              · exact hmax t ht h1 h2
            · refine ⟨x, by simp, hx, fun t ht h1 h2 => ?_⟩
              rcases List.mem_cons.1 ht with rfl | ht
              · exact Int.le_refl _
              · have := hmax t ht h1 h2; omega
        · have hl : (l.filter fun s => decide (s.lo ≤ n) && decide (n ≤ s.hi)).length ≠ 0 := by
            rw [List.filter_cons, if_neg (by simpa using hx)] at h
            exact h
          obtain ⟨s, hs, hsn, hmax⟩ := ih hl
          refine ⟨s, by simp [hs], hsn, fun t ht h1 h2 => ?_⟩
          rcases List.mem_cons.1 ht with rfl | ht
          · exact absurd ⟨h1, h2⟩ hx
          · exact hmax t ht h1 h2
    obtain ⟨s, hs, hsn, hmax⟩ := key ss h0
    refine Nat.le_trans (filter_len_le (q := fun t : Sp => decide (t.lo ≤ s.lo) && decide (s.lo ≤ t.hi)) ss fun t ht hp => ?_) (holds_crowd ss s hs)
    simp only [Bool.and_eq_true, decide_eq_true_eq] at hp ⊢
    have := hmax t ht hp.1 hp.2
    omega
theorem crowd_at (ss : List Sp) : crowdS ss = 0 ∨ ∃ s ∈ ss, crowdS ss = holds ss s.lo := foldl_max_at _ _ _
theorem crowd_perm {ss tt : List Sp} (h : List.Perm ss tt) : crowdS ss = crowdS tt := by
  have hh : ∀ n, holds ss n = holds tt n := fun n => (h.filter _).length_eq
  have one : ∀ {a b : List Sp}, List.Perm a b → crowdS a ≤ crowdS b := fun {a b} hp => by
    have hh : ∀ n, holds a n = holds b n := fun n => (hp.filter _).length_eq
    rcases crowd_at a with h1 | ⟨s, hs, h1⟩
    · omega
    · rw [h1, hh]; exact holds_le b _
  exact Nat.le_antisymm (one h) (one h.symm)
end Go.Proofs.Ytkmocikcohhdoaa
