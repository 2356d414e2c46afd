/- A map in a box; what a function that ranged over functions has deferred. No program is named here. -/
import Derived.Test.YtmbhnjpaieimbaaMap
import Derived.Test.YtmbhnjpaieimbaaRange3
set_option linter.unusedVariables false
set_option linter.unusedSimpArgs false
namespace Go.Proofs.Ytmbhnjpaieimbaa
open Go.RowKit Go.Shelf
/-- A map in a box: L the box, b the map, of at most n entries; it reads as f. -/
structure MBox {β : Type} (P : Program) (K E : TypeId) (ld : β → DataW Unit) (w : World) (L b n : Nat) (f : Int → Option β) (W : World) : Prop where
  box : At W L [.map (some b)]
  mp : ∃ s, Mp P K E ld W b n f s
  bl : Below w.heap.size w W
section
variable {β : Type} {P : Program} {K E : TypeId} {ld : β → DataW Unit} {w W W' : World} {L b n n' s : Nat} {f f' g : Int → Option β}
theorem MBox.kept {R : Nat → Prop} (h : MBox P K E ld w L b n f W) (hk : Kept R W W') (h1 : R L) (h2 : R b) (h4 : ∀ b, b < w.heap.size → R b) : MBox P K E ld w L b n f W' :=
  let ⟨s, hs⟩ := h.mp
  ⟨h.box.kept hk h1, ⟨s, hs.keptR hk h2⟩, h.bl.trans (hk.below h4 h.bl.size)⟩
theorem MBox.put (h : MBox P K E ld w L b n f W) (hmp : Mp P K E ld W' b n' g s) (hg : W.grownBy W' (some b)) (hne : ¬ L = b) (hw : w.heap.size ≤ b) (hf : ∀ k, f' k = g k) :
    MBox P K E ld w L b n' f' W' ∧ Kept (fun x => ¬ x = b) W W' := by
  have hk : Kept (fun x => ¬ x = b) W W' := (Kept.grown hg).mono fun x _ hx => by simpa using hx
  exact ⟨⟨h.box.kept hk hne, ⟨s, hmp.congr hf⟩, h.bl.trans (hk.below (fun x hx => by omega) h.bl.size)⟩, hk⟩
theorem MBox.congr (h : MBox P K E ld w L b n f W) (hn : n ≤ n') (hf : ∀ k, f' k = f k) : MBox P K E ld w L b n' f' W :=
  let ⟨s, hs⟩ := h.mp
  ⟨h.box, ⟨s, (hs.mono hn).congr hf⟩, h.bl⟩
theorem MBox.ltL (h : MBox P K E ld w L b n f W) : L < W.heap.size := h.box.1
theorem MBox.ltb (h : MBox P K E ld w L b n f W) : b < W.heap.size := let ⟨_, hs⟩ := h.mp; hs.lt
end
/-- What a range over a function leaves to be closed. -/
def coll (D : Nat) : Deferred := { target := .collected D, args := #[] }
/-- Marks that are open, each of its own, none below B. -/
structure DefOk (B : Nat) (ds : List Nat) (W : World) : Prop where
  nodup : ds.Nodup
  open_ : ∀ D ∈ ds, B ≤ D ∧ W.heap[D]? = some (.deferred (some []))
theorem DefOk.nil (B : Nat) (W : World) : DefOk B [] W := ⟨List.nodup_nil, by simp⟩
theorem DefOk.kept {B : Nat} {ds : List Nat} {W W' : World} {R : Nat → Prop} (h : DefOk B ds W) (hk : Kept R W W') (hr : ∀ D ∈ ds, R D) : DefOk B ds W' :=
  ⟨h.nodup, fun D hD => ⟨(h.open_ D hD).1, (hk.same D (hr D hD) (Array.getElem?_eq_some_iff.1 (h.open_ D hD).2).1).trans (h.open_ D hD).2⟩⟩
theorem DefOk.lt {B : Nat} {ds : List Nat} {W : World} (h : DefOk B ds W) {D : Nat} (hD : D ∈ ds) : D < W.heap.size := (Array.getElem?_eq_some_iff.1 (h.open_ D hD).2).1
theorem DefOk.cons {B : Nat} {ds : List Nat} {W : World} {D : Nat} (h : DefOk B ds W) (hD : W.heap[D]? = some (.deferred (some []))) (hB : B ≤ D) (hn : D ∉ ds) : DefOk B (D :: ds) W :=
  ⟨List.nodup_cons.2 ⟨hn, h.nodup⟩, fun D' hD' => by
    rcases List.mem_cons.1 hD' with rfl | h'
    · exact ⟨hB, hD⟩
    · exact h.open_ D' h'⟩
theorem leaves_coll {F : Fence} {n : Nat} {P : Program} {fn : Func} {tmps : Array Value} {R : Ending → World → Prop} {u : FrameMode} (hu : u ≠ .run) {B : Nat} : ∀ (ds : List Nat) (W : World), DefOk B ds W →
    (∀ W', Kept (fun b => b ∉ ds) W W' → LeavesInM F n P fn tmps R [] u W') → LeavesInM F n P fn tmps R (ds.map coll) u W
  | [], W, _, h => h W (Kept.refl _ _)
  | D :: ds, W, hd, h => by
    have h1 := hd.open_ D (by simp)
    have hn := List.nodup_cons.1 hd.nodup
    refine ⟨hu, .inl ⟨D, _, rfl, run_takeDeferred h1.2, ?_⟩⟩
    have hk : Kept (fun b => ¬ b = D) W (W.putObj D (.deferred none)) := Kept.putObj W D _
    refine leaves_coll hu ds _ ⟨hn.2, fun D' hD' => ⟨(hd.open_ D' (by simp [hD'])).1, (hk.same D' (fun e => hn.1 (e ▸ hD')) (hd.lt (by simp [hD']))).trans (hd.open_ D' (by simp [hD'])).2⟩⟩ fun W' hk' => ?_
    exact h W' ((hk.mono fun b _ hb => by simp at hb; exact hb.1).trans (hk'.mono fun b _ hb => by simp at hb; exact hb.2))
end Go.Proofs.Ytmbhnjpaieimbaa
