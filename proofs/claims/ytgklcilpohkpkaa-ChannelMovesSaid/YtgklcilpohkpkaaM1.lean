/- Stones lead the water: the plain law of two paths. -/
import Derived.Test.YtgklcilpohkpkaaR4
set_option linter.unusedVariables false
set_option linter.unusedSimpArgs false
namespace Go.Proofs.Ytgklcilpohkpkaa
/-- What is open: the first path without what was shut, and what was opened. -/
def keepF (p s o : List Int) : Int → Option Bool := fun j => if (j ∈ p ∧ j ∉ s) ∨ j ∈ o then some true else none
theorem keepF_start (p : List Int) (j : Int) : keepF p [] [] j = if j ∈ p then some true else none := by simp [keepF]
theorem keepF_shut (p s : List Int) (c j : Int) : keepF p (s ++ [c]) [] j = upd (keepF p s []) c none j := by
  unfold keepF upd
  by_cases e : j = c
  · subst e; simp
  · simp [e]
theorem keepF_open (p s o : List Int) (c j : Int) : keepF p s (o ++ [c]) j = upd (keepF p s o) c (some true) j := by
  unfold keepF upd
  by_cases e : j = c
  · subst e; simp
  · simp [e]
theorem filter_parts (f : Int → Bool) : ∀ p : List Int, (p.filter f).length + (p.filter (fun x => !f x)).length = p.length
  | [] => rfl
  | x :: p => by
    have h := filter_parts f p
    cases hx : f x <;> simp [List.filter_cons, hx] <;> omega
theorem count_moves {p q : List Int} (hp : p.Pairwise (· < ·)) (hq : q.Pairwise (· < ·)) : p.length + (withoutL q p).length = q.length + (withoutL p q).length := by
  have h1 := filter_parts (fun x => decide (x ∈ q)) p
  have h2 := filter_parts (fun x => decide (x ∈ p)) q
  have h3 : p.filter (fun x => decide (x ∈ q)) = q.filter (fun x => decide (x ∈ p)) := by
    refine sorted_ext _ _ (hp.sublist List.filter_sublist) (hq.sublist List.filter_sublist) fun x => ?_
    simp [and_comm]
  rw [h3] at h1
  unfold withoutL
  omega
theorem withoutL_mem {p q : List Int} {x : Int} : x ∈ withoutL p q ↔ x ∈ p ∧ x ∉ q := by simp [withoutL]
theorem withoutL_sorted {p q : List Int} (hp : p.Pairwise (· < ·)) : (withoutL p q).Pairwise (· < ·) := hp.sublist List.filter_sublist
theorem withoutL_len (p q : List Int) : (withoutL p q).length ≤ p.length := List.length_filter_le _ _
theorem sorted_at {l : List Int} (h : l.Pairwise (· < ·)) {i j : Nat} {x y : Int} (hij : i < j) (hx : l[i]? = some x) (hy : l[j]? = some y) : x < y := by
  rw [List.pairwise_iff_getElem] at h
  obtain ⟨h1, rfl⟩ := List.getElem?_eq_some_iff.1 hx
  obtain ⟨h2, rfl⟩ := List.getElem?_eq_some_iff.1 hy
  exact h i j h1 h2 hij
theorem sorted_new {l : List Int} (h : l.Pairwise (· < ·)) {k : Nat} {x : Int} (hx : l[k]? = some x) : x ∉ l.take k := fun hm => by
  obtain ⟨i, hi⟩ := List.mem_iff_getElem?.1 hm
  have hk : i < k := by
    have := (List.getElem?_eq_some_iff.1 hi).1
    rw [List.length_take] at this
    omega
  rw [List.getElem?_take_of_lt hk] at hi
  have := sorted_at h hk hi hx
  omega
theorem shut_there {p q : List Int} (hp : p.Pairwise (· < ·)) {k : Nat} {x : Int} (hx : (withoutL p q)[k]? = some x) : keepF p ((withoutL p q).take k) [] x = some true := by
  have h1 := sorted_new (withoutL_sorted hp) hx
  have h2 := withoutL_mem.1 (List.mem_of_getElem? hx)
  simp [keepF, h1, h2.1]
theorem open_new {p q : List Int} (hq : q.Pairwise (· < ·)) {k : Nat} {x : Int} (s : List Int) (hx : (withoutL q p)[k]? = some x) : keepF p s ((withoutL q p).take k) x = none := by
  have h1 := sorted_new (withoutL_sorted hq) hx
  have h2 := withoutL_mem.1 (List.mem_of_getElem? hx)
  simp [keepF, h1, h2.2]
theorem all_open {p q : List Int} {x : Int} (hx : x ∈ q) : keepF p (withoutL p q) (withoutL q p) x = some true := by
  unfold keepF
  rw [if_pos]
  simp only [withoutL_mem]
  by_cases h : x ∈ p
  · left; exact ⟨h, fun h2 => h2.2 hx⟩
  · right; exact ⟨hx, h⟩
theorem movesS_ok {cs : List Ca} {fs : List Int} {dry days : Int} {a b : Int} (hok : netOk cs fs dry days = true) (a0 : 0 ≤ a) (a1 : a < fs.length) (b0 : 0 ≤ b) (b1 : b < fs.length) :
    movesS cs fs dry days a b = (withoutL (pathK cs fs a) (pathK cs fs b), withoutL (pathK cs fs b) (pathK cs fs a), 0) := by
  unfold movesS
  rw [if_pos hok, if_pos (by simp [inF]; omega), without_only hok a0 a1, without_only hok b0 b1]
theorem pathS_ok {cs : List Ca} {fs : List Int} {dry days : Int} {a : Int} (hok : netOk cs fs dry days = true) (a0 : 0 ≤ a) (a1 : a < fs.length) : pathS cs fs dry days a = (pathK cs fs a, 0) := by
  unfold pathS
  rw [if_pos hok, if_pos (by simp [inF]; omega)]
theorem pathK_okI {cs : List Ca} {fs : List Int} {dry days : Int} (hok : netOk cs fs dry days = true) {k x : Int} (a0 : 0 ≤ k) (a1 : k < fs.length) (hx : x ∈ pathK cs fs k) : okI x := by
  have h := upK_okI hok a0 a1 (mem_pathK.1 hx)
  have := (netOk_parts hok).1
  unfold okI
  omega
end Go.Proofs.Ytgklcilpohkpkaa
