/- Maps from ints to values that are told as they stand (slices): what a block reads as, a store, a look, its length, a range over it. No program is named here. -/
import Derived.Test.YtgfghffihjfbpaaGreatDoorMap
import Derived.Maps.RangeWalk
set_option linter.unusedVariables false
set_option linter.unusedSimpArgs false
namespace Go.Proofs.YtgfghffihjfbpaaGreatDoor
open Go.RowKit Go.Shelf Go.Maps Go.MapKept Go.ChangeMaps
def RV : Value → Option (DataW Value × List MemPlace) := fun v => some (.held v, [])
/-- Block b is a map from ints, of at most n entries, that reads as f and has s entries. -/
def MpV (P : Program) (K : TypeId) (w : World) (b n : Nat) (f : Int → Option Value) (s : Nat) : Prop :=
  ∃ D : DataW Value, w.ownsMap P K RV b n D ∧ Tidy D ∧ (∀ (k : Int) z, D.atKey (.int .i64 k) z = match f k with | some x => .held x | none => z) ∧ (∀ k, has D (.int .i64 k) = (f k).isSome) ∧ size D = s
/-- A range over it that is under way: left: which keys are still to come. -/
def MpR (P : Program) (K : TypeId) (w : World) (b r n : Nat) (f : Int → Option Value) (left : Int → Bool) (cnt : Nat) : Prop :=
  ∃ (D : DataW Value) (L : Lit → Bool), w.ranges P K RV b r n D L cnt ∧ (∀ (k : Int) z, D.atKey (.int .i64 k) z = match f k with | some x => .held x | none => z) ∧ ∀ k, L (.int .i64 k) = left k
section
variable {P : Program} {T K E : TypeId} {w w' : World} {b r n s cnt : Nat} {f : Int → Option Value} {left : Int → Bool}
theorem MpV.made (w : World) (P : Program) (K : TypeId) : MpV P K (w.alloc (.map #[] 0)) w.heap.size 0 (fun _ => none) 0 :=
  ⟨.map [], World.ownsMap_made w P K _, tidy_empty, fun _ _ => rfl, fun _ => rfl, rfl⟩
theorem MpV.lt (h : MpV P K w b n f s) : b < w.heap.size := let ⟨_, h, _⟩ := h; h.lt
theorem MpV.mono (h : MpV P K w b n f s) {n' : Nat} (hn : n ≤ n') : MpV P K w b n' f s := let ⟨D, h, r⟩ := h; ⟨D, h.mono hn, r⟩
theorem MpV.keptR {R : Nat → Prop} (h : MpV P K w b n f s) (hk : Kept R w w') (hb : R b) : MpV P K w' b n f s := by
  obtain ⟨D, h, r⟩ := h
  have hlt := h.lt
  obtain ⟨es, clock, hb', F, hs, hD⟩ := h
  exact ⟨D, ⟨es, clock, (hk.same b hb hlt).trans hb', F, hs, hD⟩, r⟩
theorem MpV.bel (h : MpV P K w b n f s) (hb : Below w.heap.size w w') : MpV P K w' b n f s := h.keptR (Kept.all (fun _ => True) hb) trivial
theorem MpV.congr {g : Int → Option Value} (h : MpV P K w b n f s) (hg : ∀ k, g k = f k) : MpV P K w b n g s := by
  obtain rfl : g = f := funext hg
  exact h
theorem MpV.write (h : MpV P K w b n f s) (hk : P.underlying K = some (.int .i64)) (ht : P.underlying T = some (.map K E)) (hn : n < 1000000) {k : Int} (hkk : okI k) (x : Value) :
    ∃ w', (Instr.mapUpdate T (.map (some b)) (.int .i64 k) x).run P w = .ok () w' ∧ MpV P K w' b (n + 1) (upd f k (some x)) (if (f k).isSome then s else s + 1) ∧ w.grownBy w' (some b) := by
  obtain ⟨D, h, htd, hat, hhas, hs⟩ := h
  obtain ⟨w', hrun, h1, h2⟩ := h.update (int_keyed hk) ht (by simp only [maxLen]; omega) (keyOf_int_mk hk (okI_wf hkk)) (show RV x = some (.held x, []) from rfl)
  refine ⟨w', hrun, ⟨_, h1, htd.put (k := .int .i64 k) trivial _, fun j z => ?_, fun j => ?_, ?_⟩, h2⟩
  · unfold upd
    by_cases e : j = k
    · subst e; rw [if_pos rfl]; exact atKey_put_same (k := .int .i64 j) htd.isMap trivial _ _
    · rw [if_neg e, atKey_put_other (by simpa using e)]; exact hat j z
  · unfold upd
    by_cases e : j = k
    · subst e; rw [if_pos rfl]; exact has_put_same (k := .int .i64 j) htd.isMap trivial _
    · rw [if_neg e, has_put_other (by simpa using e)]; exact hhas j
  · rw [size_put htd, hhas, hs]
theorem MpV.look (h : MpV P K w b n f s) (hk : P.underlying K = some (.int .i64)) (ht : P.underlying T = some (.map K E)) {z : Value} (hz : (zeroValue E).run P w = .ok z w) {k : Int} (hkk : okI k) :
    (Instr.lookup T (.map (some b)) (.int .i64 k) true).run P w = .ok (.tuple #[(f k).getD z, .bool (f k).isSome]) w := by
  obtain ⟨D, h, _, hat, hhas, _⟩ := h
  obtain ⟨v, ps, hrun, hv⟩ := h.look_ok (int_keyed hk) ht hz (show RV z = some (.held z, []) from rfl) (keyOf_int_mk hk (okI_wf hkk))
  rw [hat k] at hv
  rw [hrun, hhas]
  cases hf : f k with
  | none => rw [hf] at hv; simp [RV] at hv; rw [hv.1]; rfl
  | some x => rw [hf] at hv; simp [RV] at hv; rw [hv.1]; rfl
theorem MpR.lt (h : MpR P K w b r n f left cnt) : r < w.heap.size := let ⟨_, _, h, _⟩ := h; h.lt
theorem MpR.ltb (h : MpR P K w b r n f left cnt) : b < w.heap.size := let ⟨_, _, h, _⟩ := h; h.owns.lt
theorem MpR.left_eq (h : MpR P K w b r n f left cnt) : w.rangeLeft b r = cnt := let ⟨_, _, h, _⟩ := h; h.left_eq
theorem MpR.ne (h : MpR P K w b r n f left cnt) : r ≠ b := let ⟨_, _, h, _⟩ := h; h.ne
theorem MpR.keptR {R : Nat → Prop} (h : MpR P K w b r n f left cnt) (hk : Kept R w w') (hb : R b) (hr : R r) : MpR P K w' b r n f left cnt := by
  have h1 := h.ltb
  have h2 := h.lt
  obtain ⟨D, L, h, r1, r2⟩ := h
  obtain ⟨es, clock, since, seen, c0, hb', F, hs, hD, hr', rest⟩ := h
  exact ⟨D, L, ⟨es, clock, since, seen, c0, (hk.same b hb h1).trans hb', F, hs, hD, (hk.same r hr h2).trans hr', rest⟩, r1, r2⟩
variable {ops : Array Oper} {rest : List Oper} {o : Oper} {a : Act} {Q : Exit → Act → World → Prop}
theorem wpList_mapWriteV (hg : o.guard = none) (m x v : Operand) (hop : o.op = Op.mapUpdate T m x v) (hk : P.underlying K = some (.int .i64)) (ht : P.underlying T = some (.map K E)) (h : MpV P K w b n f s) (hn : n < 1000000) (hm : a.eval m = .map (some b)) (k : Int) (hx : a.eval x = .int .i64 k) (hkk : okI k) (y : Value) (hv : a.eval v = y)
    (hK : ∀ w', MpV P K w' b (n + 1) (upd f k (some y)) (if (f k).isSome then s else s + 1) → w.grownBy w' (some b) → wpList P ops Q rest (a.put o.dst undef) w') : wpList P ops Q (o :: rest) a w := by
  refine wpList_plain hg fun K' hK' => ?_
  obtain ⟨w', hrun, r1, r2⟩ := h.write hk ht hn hkk y
  unfold Oper.wp
  simp [execOp, hop, hm, hx, hv, hrun, Result.andThen]
  exact hK' _ _ (hK w' r1 r2)
theorem wpList_mapLookV (hg : o.guard = none) (m x : Operand) (hop : o.op = Op.lookup T m x true) (hk : P.underlying K = some (.int .i64)) (ht : P.underlying T = some (.map K E)) {z : Value} (hz : (zeroValue E).run P w = .ok z w) (h : MpV P K w b n f s) (hm : a.eval m = .map (some b)) (k : Int) (hx : a.eval x = .int .i64 k) (hkk : okI k)
    (hK : wpList P ops Q rest (a.put o.dst (.tuple #[(f k).getD z, .bool (f k).isSome])) w) : wpList P ops Q (o :: rest) a w := by
  refine wpList_plain hg fun K' hK' => ?_
  unfold Oper.wp
  simp [execOp, hop, hm, hx, h.look hk ht hz hkk, Result.andThen]
  exact hK' _ _ hK
theorem wpList_mapLenV (hg : o.guard = none) (m : Operand) (hop : o.op = Op.call { callee := Callee.builtin Builtin.len, args := #[m], argTypes := #[T] }) (ht : P.underlying T = some (.map K E)) (h : MpV P K w b n f s) (hm : a.eval m = .map (some b))
    (hK : wpList P ops Q rest (a.put o.dst (.int .i64 s)) w) : wpList P ops Q (o :: rest) a w := by
  obtain ⟨D, h, _, _, _, rfl⟩ := h
  refine wpList_plain hg fun K' hK' => ?_
  unfold Oper.wp
  simp [execOp, hop, resolve, invoke, builtin, hm, h.len ht o.type, Result.andThen]
  exact hK' _ _ hK
theorem wpList_mapRangeV (hg : o.guard = none) (m : Operand) (hop : o.op = Op.range T m) (hk : P.underlying K = some (.int .i64)) (ht : P.underlying T = some (.map K E)) (h : MpV P K w b n f s) (hm : a.eval m = .map (some b))
    (hK : ∀ w', MpR P K w' b w.heap.size n f (fun k => (f k).isSome) s → Below w.heap.size w w' → w'.heap.size = w.heap.size + 1 → wpList P ops Q rest (a.put o.dst (.pointer (some ⟨w.heap.size, 0, none⟩))) w') : wpList P ops Q (o :: rest) a w := by
  obtain ⟨D, h, _, hat, hhas, rfl⟩ := h
  refine wpList_range_own w hg m T hop K E (int_keyed hk) ht RV b n D hm h fun w' hr hg hs => ?_
  exact hK w' ⟨D, _, hr, hat, hhas⟩ ⟨hg.os, hg.tape, hg.output, by omega, fun i hi => hg.block i hi (by simp)⟩ hs
theorem wpList_mapNextV (hg : o.guard = none) (it : Operand) (hop : o.op = Op.next it false) (hk : P.underlying K = some (.int .i64)) (hit : a.eval it = .pointer (some ⟨r, 0, none⟩)) (h : MpR P K w b r n f left cnt)
    (hDone : cnt = 0 → (∀ k, left k = false) → wpList P ops Q rest (a.put o.dst (.tuple #[.bool false])) w)
    (hMore : ∀ (x : Int) (c : Value) (w' : World) (cnt' : Nat), left x = true → f x = some c → MpR P K w' b r n f (fun z => left z && !decide (z = x)) cnt' → cnt' < cnt → w.grownBy w' (some r) → w'.heap.size = w.heap.size →
      (Instr.entry (.pointer (some ⟨r, 0, none⟩))).run P w' = .ok (.tuple #[.int .i64 x, c]) w' → wpList P ops Q rest (a.put o.dst (.tuple #[.bool true, .int .i64 x, c])) w')
    (hleft : ∀ k, left k = true → (f k).isSome = true) : wpList P ops Q (o :: rest) a w := by
  obtain ⟨D, L, h, hat, hL⟩ := h
  refine wpList_next_ranges w hg it hop K (int_keyed hk) RV (Value.int .i64) id (fun key kl hkey => by obtain ⟨x, rfl, _⟩ := keyOf_int_inv hk hkey; exact ⟨x, rfl⟩) (fun v y hv => ⟨v, rfl⟩) b r n D L cnt hit h
    (fun h0 hl => hDone h0 fun k => by rw [← hL]; exact hl _) (fun x c kl y w' cnt' hkey hlk hv hat' hrg hlt hgr hsz hen => ?_)
  obtain ⟨x', ex, rfl, hwx⟩ := keyOf_int_inv hk hkey
  cases ex
  have hlx : left x = true := by rw [← hL]; exact hlk
  obtain ⟨c', hc'⟩ := Option.isSome_iff_exists.1 (hleft x hlx)
  have e1 := hat' .nil
  rw [hat x .nil, hc'] at e1
  simp [RV] at hv
  rw [← hv] at e1
  simp at e1
  subst e1
  refine hMore x _ w' cnt' hlx hc' ⟨D, _, hrg, hat, fun k => ?_⟩ hlt hgr hsz hen
  rw [hL]
  simp [Lit.sameKey]
end
end Go.Proofs.YtgfghffihjfbpaaGreatDoor
