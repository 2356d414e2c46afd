/- The reference of channel: the canals that are dry, use by use, by contracts. -/
import Derived.Test.YthlnbgjlkliopaaR5
import Derived.Test.YthlnbgjlkliopaaR3
set_option linter.unusedVariables false
set_option linter.unusedSimpArgs false
namespace Go.Proofs.Ythlnbgjlkliopaa
open Go.RowKit Go.Shelf
attribute [local go_sem ↓] Go.wp_at_zero Go.wp_at_succ
def dryR (cs : List Ca) (fs : List Int) (dry cyc : Int) (us : List Us) (a : Nat) : List Int := match us[a]? with | some u => (pathK cs fs u.field).filter (dryB cs fs dry cyc us a) | none => []
theorem filter_snoc {p : Int → Bool} {l : List Int} {k : Nat} {x : Int} (hx : l[k]? = some x) : (l.take (k + 1)).filter p = (l.take k).filter p ++ (if p x then [x] else []) := by
  rw [take_snoc hx, List.filter_append]
  congr 1
  cases h : p x <;> simp [h]
/-! ### all uses -/
/-- A row of slices of the call's own, each of them of its own. -/
structure RowsOwn (Z : Nat) (cells : Nat → List Int) (k : Nat) (v : Value) (W : World) : Prop where
  own : ∃ ss, Own W Z 23 1 Sl.cells v ss ∧ ss.length = k ∧ ∀ (i : Nat) (s : Sl), ss[i]? = some s → Own W Z 3 1 icell s.val (cells i) ∧ ∀ g, s.val.ownBlock = some g → ¬ v.ownBlock = some g
theorem RowsOwn.nil (Z : Nat) (cells : Nat → List Int) (W : World) : RowsOwn Z cells 0 (.slice none 0 0) W := ⟨[], Own.nil _ _ _ _ _, rfl, by simp⟩
theorem RowsOwn.step {Z k : Nat} {cells : Nat → List Int} {v vv : Value} {W W2 wv : World} {ss : List Sl} {s : Sl} {o : Obj} (hZ : Z ≤ W.heap.size) (h3 : Own W Z 23 1 Sl.cells v ss) (h5 : ss.length = k)
    (h6 : ∀ (i : Nat) (s : Sl), ss[i]? = some s → Own W Z 3 1 icell s.val (cells i) ∧ ∀ g, s.val.ownBlock = some g → ¬ v.ownBlock = some g) (hb : Below W.heap.size W W2) (hs : Own W2 W.heap.size 3 1 icell s.val (cells k))
    (ho : Own wv Z 23 1 Sl.cells vv (ss ++ [s])) (hg : (W2.alloc o).grownBy wv v.ownBlock) (hat : vv.ownBlock = v.ownBlock ∨ vv.ownBlock = some (W2.heap.size + 1)) : RowsOwn Z cells (k + 1) vv wv := by
  have h32 := h3.below hb
  have hk1 : Kept (fun b => ¬ v.ownBlock = some b) W2 wv := kept_app2 h32 (below_new W2 o) hg
  have hvv : ∀ g, vv.ownBlock = some g → v.ownBlock = some g ∨ W2.heap.size < g := fun g hg => by
    rcases hat with h | h
    · exact .inl (h.symm.trans hg)
    · rw [h] at hg; injection hg with hg; exact .inr (by omega)
  refine ⟨ss ++ [s], ho, by simp [h5], fun i s' hs' => ?_⟩
  have key : Own W2 Z 3 1 icell s'.val (cells i) ∧ ∀ g, s'.val.ownBlock = some g → ¬ v.ownBlock = some g := by
    by_cases hi : i < ss.length
    · rw [List.getElem?_append_left hi] at hs'
      exact ⟨(h6 i s' hs').1.below hb, (h6 i s' hs').2⟩
    · rw [List.getElem?_append_right (by omega)] at hs'
      have hi2 : i = k := by
        by_cases e : i - ss.length = 0
        · omega
        · rw [List.getElem?_eq_none (by simp; omega)] at hs'; cases hs'
      subst hi2
      rw [h5, Nat.sub_self] at hs'
      simp at hs'
      subst hs'
      exact ⟨hs.mono hZ, fun g hg e => by have := (own_block h3 e).2; have := (own_block hs hg).1; omega⟩
  refine ⟨key.1.keptB hk1 (fun g hg => key.2 g hg), fun g hg e => ?_⟩
  rcases hvv g e with h | h
  · exact key.2 g hg h
  · have := (own_block key.1 hg).2; omega
theorem RowsOwn.alloc {Z k : Nat} {cells : Nat → List Int} {v : Value} {W W' : World} (h : RowsOwn Z cells k v W) (hb : Below W.heap.size W W') : RowsOwn Z cells k v W' := by
  obtain ⟨ss, h1, h2, h3⟩ := h.own
  exact ⟨ss, h1.below hb, h2, fun i s hs => ⟨(h3 i s hs).1.below hb, (h3 i s hs).2⟩⟩
theorem RowsOwn.rows {Z n : Nat} {cells : Nat → List Int} {v : Value} {W : World} (h : RowsOwn Z cells n v W) : ∃ ss, Own W Z 23 1 Sl.cells v ss ∧ Rows W W.heap.size icell ss ((List.range n).map cells) := by
  obtain ⟨ss, h1, h2, h3⟩ := h.own
  refine ⟨ss, h1, by simp [h2], fun i s xs h8 h9 => ?_⟩
  have h11 := (h3 i s h8).1.rdv
  have : i < n := by have := (List.getElem?_eq_some_iff.1 h8).1; omega
  rw [List.getElem?_map, List.getElem?_range this] at h9
  simp at h9
  subst h9
  exact h11
def rDriesS (cs : List Ca) (fs : List Int) (dry days : Int) (us : List Us) : List (List Int) × Int :=
  if netOk cs fs dry days then (if usesOk fs.length days us then ((List.range us.length).map (dryR cs fs dry (days * 1440) us), 0) else ([], 51)) else ([], 50)
end Go.Proofs.Ythlnbgjlkliopaa
