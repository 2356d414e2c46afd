/- Small words for memory behind rounds: what S5, S6, S7 (salt) say, for the other layers. No program is named here. -/
import Derived.Test.YtmbhnjpaieimbaaRange
set_option linter.unusedVariables false
set_option linter.unusedSimpArgs false
namespace Go.Proofs.Ytmbhnjpaieimbaa
open Go.RowKit Go.Shelf
theorem two_set (w : World) (b : Nat) (x y : Value) {u v : Value} (h0 : w.cell? ⟨b, 0, none⟩ = some u) (h1 : w.cell? ⟨b, 1, none⟩ = some v) :
    ((w.setCell ⟨b, 0, none⟩ x).setCell ⟨b, 1, none⟩ y).cell? ⟨b, 0, none⟩ = some x ∧ ((w.setCell ⟨b, 0, none⟩ x).setCell ⟨b, 1, none⟩ y).cell? ⟨b, 1, none⟩ = some y := by
  have e0 : (w.setCell ⟨b, 0, none⟩ x).cell? ⟨b, 0, none⟩ = some x := World.cell?_setCell_same' _ _ _ (by rw [h0]; rfl)
  have e1 : (w.setCell ⟨b, 0, none⟩ x).cell? ⟨b, 1, none⟩ = some v := (World.cell?_setCell_other _ _ _ _ (by simp)).trans h1
  exact ⟨(World.cell?_setCell_other _ _ _ _ (by simp)).trans e0, World.cell?_setCell_same' _ _ _ (by rw [e1]; rfl)⟩
theorem At.frozen_new (w : World) (cs : Array Value) (t : TypeId) (q : Nat) (hq : q = w.heap.size) (j : Nat) : (w.alloc (.cells cs t)).frozen? ⟨q, j, none⟩ = false := by
  subst hq
  unfold World.frozen?
  rw [show (w.alloc (.cells cs t)).heap[(⟨w.heap.size, j, none⟩ : Addr).block]? = some (.cells cs t (0, 0)) from heap_alloc_new w _]
  simp
theorem At.set {w : World} {p : Nat} {cs : List Value} (h : At w p cs) {j : Nat} (u : Value) (hj : j < cs.length) : At (w.setCell ⟨p, j, none⟩ u) p (cs.set j u) := by
  refine ⟨by simpa [World.setCell] using h.1, fun i v hv => ?_⟩
  by_cases hij : i = j
  · subst hij
    rw [List.getElem?_set_self hj] at hv
    injection hv with hv
    subst hv
    exact World.cell?_setCell_same' _ _ _ (by rw [h.2 i _ (List.getElem?_eq_getElem hj)]; rfl)
  · rw [List.getElem?_set_ne (Ne.symm hij)] at hv
    exact (World.cell?_setCell_other _ _ _ _ (by first | (simp; done) | (simp; omega))).trans (h.2 i v hv)
theorem At.kept {w w' : World} {p : Nat} {cs : List Value} {R : Nat → Prop} (h : At w p cs) (hk : Kept R w w') (hp : R p) : At w' p cs :=
  ⟨Nat.lt_of_lt_of_le h.1 hk.size, fun j v hv => (hk.cell (p := ⟨p, j, none⟩) hp h.1).trans (h.2 j v hv)⟩
theorem rounds_of {F : Fence} {n : Nat} {P : Program} {c : Code} {Q : Exit → Act → World → Prop} (Rel : Nat → Act → World → Prop) (h0 : ∀ a w, ¬ Rel 0 a w)
    (h : ∀ r a w, Rel (r + 1) a w → c.wpIn F n P (Exit.then (Rel r) Q) a w) : ∀ m a w, Rel m a w → Code.roundsIn F n P c Q m a w
  | 0, a, w, hr => (h0 a w hr).elim
  | m + 1, a, w, hr => by
    rw [roundsIn_succ]
    refine wpIn_mono (h m a w hr) ?_
    intro e a' w' hq
    cases e with
    | normal => exact rounds_of Rel h0 h m a' w' hq
    | _ => exact hq
theorem Own.keptR {α : Type} {cells : α → List Value} {w w' : World} {base : Nat} {e : TypeId} {k : Nat} {v : Value} {xs : List α} {R : Nat → Prop} (h : Own w base e k cells v xs) (hk : Kept R w w') (hr : ∀ b, base ≤ b → R b) : Own w' base e k cells v xs := by
  obtain ⟨hl, hn | ⟨g, cap, cur, rfl, hb, hg, rest⟩⟩ := h
  · exact ⟨hl, .inl hn⟩
  · exact ⟨hl, .inr ⟨g, cap, cur, rfl, hb, (hk.same g (hr g hb) (Array.getElem?_eq_some_iff.1 hg).1).trans hg, rest⟩⟩
theorem kept_app {α : Type} {W wv : World} {base : Nat} {o : Obj} {e : TypeId} {k : Nat} {cells : α → List Value} {v : Value} {xs : List α} (ho : Own W base e k cells v xs) (hg : (W.alloc o).grownBy wv v.ownBlock) : Kept (fun b => b < base) W wv := by
  refine (Kept.alloc _ W o).trans ((Kept.grown hg).mono ?_)
  intro b _ hb e
  rcases ho.block_ with h | ⟨g, h, h2, _⟩
  · rw [h] at e; cases e
  · rw [h] at e
    injection e with e
    omega

/-- What a loop that appends to a variable in a box holds: L the box, base: where its rows begin. -/
structure BoxInv {α : Type} (e : TypeId) (k : Nat) (cells : α → List Value) (w : World) (L base : Nat) (xs : List α) (W : World) : Prop where
  own : ∃ v, Own W base e k cells v xs ∧ W.cell? ⟨L, 0, none⟩ = some v ∧ W.frozen? ⟨L, 0, none⟩ = false
  lt : L < W.heap.size
  bl : Below w.heap.size w W
  big : base ≤ W.heap.size
theorem BoxInv.kept {α : Type} {e : TypeId} {k : Nat} {cells : α → List Value} {w W W' : World} {L base : Nat} {xs : List α} {R : Nat → Prop} (h : BoxInv e k cells w L base xs W) (hk : Kept R W W') (h1 : ∀ b, base ≤ b → R b) (h2 : R L) (h4 : ∀ b, b < w.heap.size → R b) : BoxInv e k cells w L base xs W' := by
  obtain ⟨v, ho, hc, hf⟩ := h.own
  exact ⟨⟨v, ho.keptR hk h1, (hk.cell (p := ⟨L, 0, none⟩) h2 h.lt).trans hc, (hk.frozen (p := ⟨L, 0, none⟩) h2 h.lt).trans hf⟩, Nat.lt_of_lt_of_le h.lt hk.size, h.bl.trans (hk.below h4 h.bl.size), Nat.le_trans h.big hk.size⟩
theorem BoxInv.step {α : Type} {e : TypeId} {k : Nat} {cells : α → List Value} {w W wv : World} {L base : Nat} {xs : List α} {x : α} {vv : Value} (h : BoxInv e k cells w L base xs W) (ho : Own wv base e k cells vv (xs ++ [x])) (hk : Kept (fun b => b < base) W wv)
    (hL : L < base) (hw : w.heap.size ≤ L) : BoxInv e k cells w L base (xs ++ [x]) (wv.setCell ⟨L, 0, none⟩ vv) ∧ Kept (fun b => b < base ∧ ¬ b = L) W (wv.setCell ⟨L, 0, none⟩ vv) := by
  obtain ⟨v, _, hc, hf⟩ := h.own
  have hk2 : Kept (fun b => b < base ∧ ¬ b = L) W (wv.setCell ⟨L, 0, none⟩ vv) := (hk.mono fun b _ hb => hb.1).trans ((Kept.setCell wv ⟨L, 0, none⟩ vv).mono fun b _ hb => hb.2)
  have hc1 : wv.cell? ⟨L, 0, none⟩ = some v := (hk.cell (p := ⟨L, 0, none⟩) hL h.lt).trans hc
  have hf1 : wv.frozen? ⟨L, 0, none⟩ = false := (hk.frozen (p := ⟨L, 0, none⟩) hL h.lt).trans hf
  refine ⟨⟨⟨vv, ho.setCell ?_ _, World.cell?_setCell_same' _ _ _ (by rw [hc1]; rfl), by rw [World.frozen?_setCell]; exact hf1⟩, Nat.lt_of_lt_of_le h.lt hk2.size, h.bl.trans (hk2.below (fun b hb => ⟨by omega, by omega⟩) h.bl.size), Nat.le_trans h.big hk2.size⟩, hk2⟩
  intro e
  rcases ho.block_ with hb | ⟨g, hb, hb2, _⟩
  · rw [hb] at e; cases e
  · rw [hb] at e
    injection e with e
    simp only at e
    omega
end Go.Proofs.Ytmbhnjpaieimbaa
