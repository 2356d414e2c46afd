/- Gallery: the reaches that are suspected, and where to measure next, plain. No program is named here. -/
import Derived.Test.YtkmocikcohhdoaaF5
import Derived.Test.YtkmocikcohhdoaaG4
set_option linter.unusedVariables false
set_option linter.unusedSimpArgs false
namespace Go.Proofs.Ytkmocikcohhdoaa
open Go.RowKit Go.Shelf
def fallR (r : Rc) (t : Sp) : Rc := ⟨⟨min r.cap.lo t.lo, min r.cap.hi t.hi⟩, r.leak, r.gain⟩
def fallS (g : List Rc) (i : Nat) (t : Sp) : List Rc := g.set i (fallR (g.getD i Rc.zero) t)
/-- The flows that fit with a fall in reach i. -/
def fitF (g : List Rc) (s : Sp) (l : List Ga) (t : Sp) (i : Nat) : Option (List Sp) := fitS (fallS g i t) l s
def falN (g : List Rc) (s : Sp) (l : List Ga) (t : Sp) (k : Nat) : List Nat := (List.range k).filter fun i => (fitF g s l t i).isSome
def falE (g : List Rc) (s : Sp) (l : List Ga) (t : Sp) : Int := if gEnter g s l = 0 then (if Sp.ok 0 1000000 t then (if falN g s l t g.length = [] then 6 else 0) else 2) else gEnter g s l
def falL (g : List Rc) (s : Sp) (l : List Ga) (t : Sp) : List Int := if falE g s l t = 0 then (falN g s l t g.length).map Int.ofNat else []
def falW (g : List Rc) (s : Sp) (l : List Ga) (t : Sp) : Bool := if falE g s l t = 0 then (fitS g l s).isSome else false
/-- What may flow at shaft k, for each one that is suspected. -/
def hereK (g : List Rc) (s : Sp) (l : List Ga) (t : Sp) (k : Nat) : List Sp := (falN g s l t g.length).map fun i => ((fitF g s l t i).getD []).getD k allS
def nextGo (g : List Rc) (s : Sp) (l : List Ga) (t : Sp) : Nat → Nat × Nat
  | 0 => (0, (falN g s l t g.length).length + 1)
  | k + 1 => if crowdS (hereK g s l t k) < (nextGo g s l t k).2 then (k, crowdS (hereK g s l t k)) else nextGo g s l t k
def nextS (g : List Rc) (s : Sp) (l : List Ga) (t : Sp) : Nat × Nat := if falE g s l t = 0 then nextGo g s l t (g.length + 1) else (0, 0)
section
variable {g : List Rc} {s : Sp} {l : List Ga} {t : Sp}
theorem fallS_len (g : List Rc) (i : Nat) (t : Sp) : (fallS g i t).length = g.length := by simp [fallS]
theorem fallR_fine {r : Rc} {t : Sp} (hr : r.fine) (ht : t.fine 1000000) : (fallR r t).fine := by
  obtain ⟨⟨h1, h2, h3⟩, h4, h5⟩ := hr
  obtain ⟨h6, h7, h8⟩ := ht
  exact ⟨⟨by show 0 ≤ min _ _; omega, by show min _ _ ≤ min _ _; omega, by show min _ _ ≤ _; omega⟩, h4, h5⟩
theorem fallS_fine {i : Nat} (hg : ∀ r ∈ g, r.fine) (ht : t.fine 1000000) : ∀ r ∈ fallS g i t, r.fine := by
  intro r hr
  rcases List.mem_or_eq_of_mem_set hr with h | h
  · exact hg r h
  · rw [h]
    refine fallR_fine ?_ ht
    rw [List.getD_eq_getElem?_getD]
    cases he : g[i]? with
    | none => exact ⟨by simp [Rc.zero, Sp.fine], by simp [Rc.zero, Sp.fine], by simp [Rc.zero, Sp.fine]⟩
    | some y => exact hg y (List.mem_of_getElem? he)
theorem falN_succ (k : Nat) : falN g s l t (k + 1) = if (fitF g s l t k).isSome then falN g s l t k ++ [k] else falN g s l t k := by
  unfold falN
  rw [List.range_succ, List.filter_append]
  cases h : (fitF g s l t k).isSome <;> simp [h]
theorem falN_len (k : Nat) : (falN g s l t k).length ≤ k := by
  unfold falN
  exact Nat.le_trans (List.length_filter_le _ _) (by simp)
theorem mem_falN {k i : Nat} : i ∈ falN g s l t k ↔ i < k ∧ (fitF g s l t i).isSome = true := by simp [falN]
theorem nextGo_le (k : Nat) : (nextGo g s l t k).2 ≤ (falN g s l t g.length).length + 1 ∧ (nextGo g s l t k).1 ≤ k := by
  induction k with
  | zero => exact ⟨Nat.le_refl _, Nat.le_refl _⟩
  | succ k ih =>
    unfold nextGo
    split
    · simp only; omega
    · omega
theorem foldl_max_le {α : Type} (f : α → Nat) (b : Nat) : ∀ (l : List α) (m : Nat), m ≤ b → (∀ x ∈ l, f x ≤ b) → l.foldl (fun m s => max m (f s)) m ≤ b
  | [], m, h, _ => h
  | x :: l, m, h, h2 => by
    rw [List.foldl_cons]
    exact foldl_max_le f b l _ (by have := h2 x (by simp); omega) (fun y hy => h2 y (by simp [hy]))
theorem holds_len (ss : List Sp) (n : Int) : holds ss n ≤ ss.length := List.length_filter_le _ _
theorem crowd_len (ss : List Sp) : crowdS ss ≤ ss.length := foldl_max_le _ _ _ _ (by omega) fun x _ => holds_len ss x.lo
theorem hereK_len (k : Nat) : (hereK g s l t k).length = (falN g s l t g.length).length := by simp [hereK]
end
end Go.Proofs.Ytkmocikcohhdoaa
