/- Channel: Path, and the moves of stones, by contracts. -/
import Derived.Test.YtmbhnjpaieimbaaC7
set_option linter.unusedVariables false
set_option linter.unusedSimpArgs false
namespace Go.Proofs.Ytmbhnjpaieimbaa
open Go.RowKit Go.Shelf
attribute [local go_sem] Oper.semAt_some
/-- The path of a field. -/
def pathK (cs : List Ca) (fs : List Int) (k : Int) : List Int := pathF cs (nodeF fs k.toNat)
theorem path_net (Ac Af : Option Addr) (nc cc nf cf : Nat) (dry days : Int) (cs : List Ca) (fs : List Int) (k : Int) (w : World) (hnet : NetAt w Ac Af nc nf cs fs) (hok : netOk cs fs dry days = true) (h0 : 0 ≤ k) (h1 : k < nf) :
    Calls Try.prog 103 #[.agg #[.slice Ac nc cc, .slice Af nf cf, .int .i64 dry, .int .i64 days], .int .i64 k] w fun e w' => ∃ v, e = .returned v ∧ Own w' w.heap.size 3 1 icell v (pathK cs fs k) ∧ Below w.heap.size w w' := by
  obtain ⟨j, rfl⟩ : ∃ j : Nat, k = j := ⟨k.toNat, by omega⟩
  have hj := nodeF_of hok (k := j) (by have := hnet.ef; omega)
  exact path_any Ac Af nc cc nf cf dry days cs fs j (nodeF fs j) w hnet.rc hnet.rf hnet.ec hnet.ef hnet.nc2 hnet.nf2 (netOk_frm hok) hj.1 hj.2
theorem pathK_len (cs : List Ca) (fs : List Int) {dry days : Int} (hok : netOk cs fs dry days = true) {k : Int} (h0 : 0 ≤ k) (h1 : k < fs.length) : (pathK cs fs k).length ≤ 16 := by
  unfold pathK pathF
  rw [List.length_reverse]
  have h2 := upF_len cs (nodeF fs k.toNat) (nodeF fs k.toNat)
  have h3 := (nodeF_of hok (k := k.toNat) (by omega)).2
  have h4 := (netOk_parts hok).1
  omega
def inF (nf k : Int) : Bool := decide (0 ≤ k) && decide (k < nf)
def pathS (cs : List Ca) (fs : List Int) (dry days k : Int) : List Int × Int := if netOk cs fs dry days then (if inF fs.length k then (pathK cs fs k, 0) else ([], 2)) else ([], 50)
/-- A map in a box: L the box, b the map; it reads as f. -/
structure MapBox (w : World) (L b n : Nat) (f : Int → Option Bool) (W : World) : Prop where
  box : At W L [.map (some b)]
  mp : ∃ s, Mp Try.prog 3 4 ldB W b n f s
  bl : Below w.heap.size w W
theorem MapBox.kept {w W W' : World} {L b n : Nat} {f : Int → Option Bool} {R : Nat → Prop} (h : MapBox w L b n f W) (hk : Kept R W W') (h1 : R L) (h2 : R b) (h4 : ∀ b, b < w.heap.size → R b) : MapBox w L b n f W' :=
  let ⟨s, hs⟩ := h.mp
  ⟨h.box.kept hk h1, ⟨s, hs.keptR hk h2⟩, h.bl.trans (hk.below h4 h.bl.size)⟩
theorem MapBox.put {w W W' : World} {L b n n' s : Nat} {f f' g : Int → Option Bool} (h : MapBox w L b n f W) (hmp : Mp Try.prog 3 4 ldB W' b n' g s) (hg : W.grownBy W' (some b)) (hne : ¬ L = b) (hw : w.heap.size ≤ b) (hf : ∀ k, f' k = g k) :
    MapBox w L b n' f' W' ∧ Kept (fun x => ¬ x = b) W W' := by
  have hk : Kept (fun x => ¬ x = b) W W' := (Kept.grown hg).mono fun x _ hx => by simpa using hx
  exact ⟨⟨h.box.kept hk hne, ⟨s, hmp.congr hf⟩, h.bl.trans (hk.below (fun x hx => by omega) h.bl.size)⟩, hk⟩
/-- The function of a set that has been filled from a list, and emptied by another. -/
def setF (l : List Int) (j : Int) : Option Bool := if j ∈ l then some true else none
def setLess (l m : List Int) (j : Int) : Option Bool := if j ∈ l ∧ j ∉ m then some true else none
theorem setF_snoc (l : List Int) (x j : Int) : setF (l ++ [x]) j = upd (setF l) x (some true) j := by
  unfold setF upd
  by_cases e : j = x <;> simp [e]
theorem setLess_snoc (l m : List Int) (x j : Int) : setLess l (m ++ [x]) j = upd (setLess l m) x none j := by
  unfold setLess upd
  by_cases e : j = x <;> simp [e]
theorem setLess_nil (l : List Int) (j : Int) : setLess l [] j = setF l j := by simp [setLess, setF]
/-- The way up from a field's node. -/
def upK (cs : List Ca) (fs : List Int) (k : Int) : List Int := upF cs (nodeF fs k.toNat) (nodeF fs k.toNat)
theorem upF_range {cs : List Ca} (h : caFrm cs) : ∀ (f node : Nat), node ≤ f → ∀ x ∈ upF cs f node, 0 ≤ x ∧ x < node
  | 0, node, _ => by simp [upF]
  | f + 1, node, hn => by
    unfold upF
    split
    · simp
    · intro x hx
      rcases List.mem_cons.1 hx with rfl | hx
      · omega
      · have h1 := frmN_le h (node - 1)
        have := upF_range h f (frmN cs (node - 1)) (by omega) x hx
        omega
theorem upK_len (cs : List Ca) (fs : List Int) {dry days : Int} (hok : netOk cs fs dry days = true) {k : Int} (h0 : 0 ≤ k) (h1 : k < fs.length) : (upK cs fs k).length ≤ 16 := by
  have := pathK_len cs fs hok h0 h1
  unfold pathK pathF at this
  rwa [List.length_reverse] at this
theorem upK_okI {cs : List Ca} {fs : List Int} {dry days : Int} (hok : netOk cs fs dry days = true) {k : Int} (h0 : 0 ≤ k) (h1 : k < fs.length) {x : Int} (hx : x ∈ upK cs fs k) : 0 ≤ x ∧ x < cs.length := by
  have h2 := upF_range (netOk_frm hok) _ _ (Nat.le_refl _) x hx
  have h3 := (nodeF_of hok (k := k.toNat) (by omega)).2
  omega
/-- What one path has and the other has not. -/
def onlyK (cs : List Ca) (fs : List Int) (a b : Int) (k : Nat) : List Int := ((List.range k).map Int.ofNat).filter fun c => decide (c ∈ upK cs fs a) && !decide (c ∈ upK cs fs b)
theorem onlyK_succ (cs : List Ca) (fs : List Int) (a b : Int) (k : Nat) : onlyK cs fs a b (k + 1) = onlyK cs fs a b k ++ (if (setLess (upK cs fs a) (upK cs fs b) k).getD false then [(k : Int)] else []) := by
  unfold onlyK setLess
  rw [List.range_succ, List.map_append, List.filter_append]
  congr 1
  by_cases h1 : (k : Int) ∈ upK cs fs a <;> by_cases h2 : (k : Int) ∈ upK cs fs b <;> simp [h1, h2]
theorem onlyK_len (cs : List Ca) (fs : List Int) (a b : Int) (k : Nat) : (onlyK cs fs a b k).length ≤ k := by
  unfold onlyK
  exact Nat.le_trans (List.length_filter_le _ _) (by simp)

end Go.Proofs.Ytmbhnjpaieimbaa
