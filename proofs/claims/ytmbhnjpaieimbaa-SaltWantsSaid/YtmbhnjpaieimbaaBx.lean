/- Boxes that may be written; cuts in a drawn region; small words. No program is named here. -/
import Derived.Test.YtmbhnjpaieimbaaRegIn
import Derived.Handy
set_option linter.unusedVariables false
set_option linter.unusedSimpArgs false
namespace Go.Proofs.Ytmbhnjpaieimbaa
open Go.RowKit Go.Shelf
theorem calls_gen {P : Program} {f : FuncId} {args : Array Value} {w : World} {R : Ending → World → Prop} (h : ∀ W, Hid (w = W) → Calls P f args W R) : Calls P f args w R := h w (hide rfl)
structure Bx (w : World) (p : Nat) (cs : List Value) : Prop where
  at_ : At w p cs
  fz : ∀ j : Nat, w.frozen? ⟨p, j, none⟩ = false
section
variable {w w' : World} {p : Nat} {cs : List Value}
theorem Bx.lt (h : Bx w p cs) : p < w.heap.size := h.at_.1
theorem Bx.below (h : Bx w p cs) (hb : Below w.heap.size w w') : Bx w' p cs := ⟨h.at_.below hb, fun j => (hb.frozen (p := ⟨p, j, none⟩) h.lt).trans (h.fz j)⟩
theorem Bx.bel (h : Bx w p cs) (hb : Below w.heap.size w w') : Bx w' p cs := h.below hb
theorem Bx.kept {R : Nat → Prop} (h : Bx w p cs) (hk : Kept R w w') (hp : R p) : Bx w' p cs := ⟨h.at_.kept hk hp, fun j => (hk.frozen (p := ⟨p, j, none⟩) hp h.lt).trans (h.fz j)⟩
theorem Bx.set (h : Bx w p cs) {j : Nat} (u : Value) (hj : j < cs.length) : Bx (w.setCell ⟨p, j, none⟩ u) p (cs.set j u) := ⟨h.at_.set u hj, fun i => by rw [World.frozen?_setCell]; exact h.fz i⟩
theorem Bx.other (h : Bx w p cs) {q : Addr} (u : Value) (hq : q.block ≠ p) : Bx (w.setCell q u) p cs := h.kept (Kept.setCell w q u) (fun e => hq e.symm)
theorem Bx.alloc (h : Bx w p cs) (o : Obj) : Bx (w.alloc o) p cs := h.below (below_new _ _)
theorem Bx.drew (h : Bx w p cs) : Bx w.drew p cs := h.below (Below.refl _ _).drew
theorem Bx.new (w : World) (cs : Array Value) (t : TypeId) (q : Nat) (hq : q = w.heap.size) (l : List Value) (hl : cs.toList = l) : Bx (w.alloc (.cells cs t)) q l := ⟨At.new w cs t q hq l hl, fun j => At.frozen_new w cs t q hq j⟩
theorem Bx.w1 {v : Value} (h : Bx w p [v]) : w.cell? ⟨p, 0, none⟩ = some v ∧ w.frozen? ⟨p, 0, none⟩ = false := ⟨h.at_.c1, h.fz 0⟩
theorem Bx.w2 {v0 v1 : Value} (h : Bx w p [v0, v1]) : w.cell? ⟨p, 0, none⟩ = some v0 ∧ w.cell? ⟨p, 1, none⟩ = some v1 ∧ w.frozen? ⟨p, 0, none⟩ = false ∧ w.frozen? ⟨p, 1, none⟩ = false := ⟨h.at_.c2.1, h.at_.c2.2, h.fz 0, h.fz 1⟩
theorem Bx.set2 {v0 v1 : Value} (h : Bx w p [v0, v1]) (x y : Value) : Bx ((w.setCell ⟨p, 0, none⟩ x).setCell ⟨p, 1, none⟩ y) p [x, y] := by simpa using (h.set (j := 0) x (by simp)).set (j := 1) y (by simp)
end
/-- A box that is made: its block, the world behind it. -/
theorem mk_bx (W : World) (cs : Array Value) (t : TypeId) :
    ∃ (b : Nat) (V : World), Hid (W.heap.size = b) ∧ Hid (W.alloc (.cells cs t) = V) ∧ Bx V b cs.toList ∧ Below W.heap.size W V ∧ V.heap.size = b + 1 :=
  ⟨_, _, hide rfl, hide rfl, Bx.new W cs t _ rfl _ rfl, below_new _ _, by simp⟩
theorem mk_row {α : Type} {cells : α → List Value} (W : World) (cs : Array Value) (t : TypeId) (xs : List α) (h : cs.toList = xs.flatMap cells) :
    ∃ (b : Nat) (V : World), Hid (W.heap.size = b) ∧ Hid (W.alloc (.cells cs t) = V) ∧ Rd V V.heap.size cells (some ⟨b, 0, none⟩) xs ∧ Below W.heap.size W V :=
  ⟨_, _, hide rfl, hide rfl, (Rd.new W cs t xs h).more (by simp), below_new _ _⟩
theorem cut0 {C G : World → Prop} {Goal : Prop} (h1 : (∀ W : World, C W → G W) → Goal) (h2 : ∀ W : World, C W → G W) : Goal := h1 h2
theorem cut1 {α0 : Type} {C G : α0 → World → Prop} {Goal : Prop} (h1 : (∀ (x0 : α0) (W : World), C x0 W → G x0 W) → Goal) (h2 : ∀ (x0 : α0) (W : World), C x0 W → G x0 W) : Goal := h1 h2
theorem cut2 {α0 : Type} {α1 : Type} {C G : α0 → α1 → World → Prop} {Goal : Prop} (h1 : (∀ (x0 : α0) (x1 : α1) (W : World), C x0 x1 W → G x0 x1 W) → Goal) (h2 : ∀ (x0 : α0) (x1 : α1) (W : World), C x0 x1 W → G x0 x1 W) : Goal := h1 h2
theorem cut3 {α0 : Type} {α1 : Type} {α2 : Type} {C G : α0 → α1 → α2 → World → Prop} {Goal : Prop} (h1 : (∀ (x0 : α0) (x1 : α1) (x2 : α2) (W : World), C x0 x1 x2 W → G x0 x1 x2 W) → Goal) (h2 : ∀ (x0 : α0) (x1 : α1) (x2 : α2) (W : World), C x0 x1 x2 W → G x0 x1 x2 W) : Goal := h1 h2
theorem cut4 {α0 : Type} {α1 : Type} {α2 : Type} {α3 : Type} {C G : α0 → α1 → α2 → α3 → World → Prop} {Goal : Prop} (h1 : (∀ (x0 : α0) (x1 : α1) (x2 : α2) (x3 : α3) (W : World), C x0 x1 x2 x3 W → G x0 x1 x2 x3 W) → Goal) (h2 : ∀ (x0 : α0) (x1 : α1) (x2 : α2) (x3 : α3) (W : World), C x0 x1 x2 x3 W → G x0 x1 x2 x3 W) : Goal := h1 h2
theorem cut5 {α0 : Type} {α1 : Type} {α2 : Type} {α3 : Type} {α4 : Type} {C G : α0 → α1 → α2 → α3 → α4 → World → Prop} {Goal : Prop} (h1 : (∀ (x0 : α0) (x1 : α1) (x2 : α2) (x3 : α3) (x4 : α4) (W : World), C x0 x1 x2 x3 x4 W → G x0 x1 x2 x3 x4 W) → Goal) (h2 : ∀ (x0 : α0) (x1 : α1) (x2 : α2) (x3 : α3) (x4 : α4) (W : World), C x0 x1 x2 x3 x4 W → G x0 x1 x2 x3 x4 W) : Goal := h1 h2
theorem cut6 {α0 : Type} {α1 : Type} {α2 : Type} {α3 : Type} {α4 : Type} {α5 : Type} {C G : α0 → α1 → α2 → α3 → α4 → α5 → World → Prop} {Goal : Prop} (h1 : (∀ (x0 : α0) (x1 : α1) (x2 : α2) (x3 : α3) (x4 : α4) (x5 : α5) (W : World), C x0 x1 x2 x3 x4 x5 W → G x0 x1 x2 x3 x4 x5 W) → Goal) (h2 : ∀ (x0 : α0) (x1 : α1) (x2 : α2) (x3 : α3) (x4 : α4) (x5 : α5) (W : World), C x0 x1 x2 x3 x4 x5 W → G x0 x1 x2 x3 x4 x5 W) : Goal := h1 h2
theorem Rd.bel {α : Type} {w w' : World} {cells : α → List Value} {A : Option Addr} {xs : List α} (h : Rd w w.heap.size cells A xs) (hb : Below w.heap.size w w') : Rd w' w'.heap.size cells A xs := (h.below hb).more hb.size
theorem At.bel {w w' : World} {p : Nat} {cs : List Value} (h : At w p cs) (hb : Below w.heap.size w w') : At w' p cs := h.below hb
theorem Own.bel {α : Type} {cells : α → List Value} {w w' : World} {base : Nat} {e : TypeId} {k : Nat} {v : Value} {xs : List α} (h : Own w base e k cells v xs) (hb : Below w.heap.size w w') : Own w' base e k cells v xs := h.below hb
theorem Below.bel {B : Nat} {w0 w w' : World} (h : Below B w0 w) (hb : Below w.heap.size w w') (hB : B ≤ w.heap.size) : Below B w0 w' := h.trans (hb.mono hB)
theorem Own.rdn {α : Type} {cells : α → List Value} {w : World} {base : Nat} {e : TypeId} {k : Nat} {v : Value} {xs : List α} (h : Own w base e k cells v xs) (n : Nat) (hn : xs.length = n) : ∃ A c, v = .slice A n c ∧ Rd w w.heap.size cells A xs := by
  subst hn; exact h.rd
theorem Own.keptG {α : Type} {cells : α → List Value} {w w' : World} {base : Nat} {e : TypeId} {k : Nat} {v : Value} {xs : List α} {R : Nat → Prop} (h : Own w base e k cells v xs) (hk : Kept R w w') (hr : ∀ g, v.ownBlock = some g → R g) : Own w' base e k cells v xs := by
  obtain ⟨hl, hn | ⟨g, cap, cur, rfl, hb, hg, rest⟩⟩ := h
  · exact ⟨hl, .inl hn⟩
  · exact ⟨hl, .inr ⟨g, cap, cur, rfl, hb, (hk.same g (hr g rfl) (Array.getElem?_eq_some_iff.1 hg).1).trans hg, rest⟩⟩
theorem Own.blockG {α : Type} {cells : α → List Value} {w : World} {base : Nat} {e : TypeId} {k : Nat} {v : Value} {xs : List α} (h : Own w base e k cells v xs) {g : Nat} (hg : v.ownBlock = some g) : base ≤ g ∧ g < w.heap.size := World.ownsRow.lt h g hg
theorem Rd.keptR {α : Type} {cells : α → List Value} {w w' : World} {B : Nat} {A : Option Addr} {xs : List α} {R : Nat → Prop} (h : Rd w B cells A xs) (hk : Kept R w w') (hB : ∀ b, b < B → R b) (hl : B ≤ w.heap.size) : Rd w' B cells A xs :=
  h.keep fun p hp => hk.cell (p := p) (hB _ hp) (by omega)
theorem bel2 {w w' : World} {o : Obj} (g : Below (w.alloc o).heap.size (w.alloc o) w') : Below w.heap.size w w' := (below_new w o).trans (g.mono (by simp))
end Go.Proofs.Ytmbhnjpaieimbaa
