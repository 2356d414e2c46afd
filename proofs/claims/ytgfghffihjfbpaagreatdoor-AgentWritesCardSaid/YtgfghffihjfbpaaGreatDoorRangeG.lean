/- A range over a function that takes fresh blocks for itself and may panic between two rounds; what a loop that appends to a box holds beside it. No program is named here. -/
import Derived.Test.YtgfghffihjfbpaaGreatDoorRegIn
import Derived.Test.YtgfghffihjfbpaaGreatDoorApp
set_option linter.unusedVariables false
set_option linter.unusedSimpArgs false
namespace Go.Proofs.YtgfghffihjfbpaaGreatDoor
open Go.RowKit Go.Shelf
/-- What an iterator promises: N rounds, the k-th with whatever E k says. X: the blocks that are the iterator's now (Oi at first; it may take fresh ones); G: those that it hands over with the values. R: the blocks that a round must keep besides. -/
def SeqXF (n : Nat) (P : Program) (g : Nat) (lb : Array Value) (E : Nat → Nat → (Nat → Prop) → (Nat → Prop) → Array Value → World → Prop) (N : Nat) (fin : Prop) (Pn : Nat → List PanicEntry → Prop) (Oi R : Nat → Prop) (w : World) : Prop :=
  ∀ (l : Nat) (J Jx : Nat → (Nat → Prop) → World → Prop) (W : World), Kept R w W →
    (∀ k X X' A B, J k X A → Kept (fun b => ¬ X b) A B → (∀ b, X' b → X b ∨ A.heap.size ≤ b) → J k X' B) →
    (∀ k X X' A B, Jx k X A → Kept (fun b => ¬ X b) A B → (∀ b, X' b → X b ∨ A.heap.size ≤ b) → Jx k X' B) →
    (∀ k X G args W1, J k (fun b => X b ∨ G b) W1 → (∀ b, X b ∨ G b → b < W1.heap.size) → E W.heap.size k X G args W1 → k < N → YieldAt Fence.wide (n - 1) P l args W1 fun e W' =>
      (e = .returned (.bool true) ∧ J (k + 1) X W' ∧ Kept (fun b => R b ∨ X b) W1 W') ∨ (e = .returned (.bool false) ∧ Jx (k + 1) X W' ∧ Kept (fun b => R b ∨ X b) W1 W')) →
    J 0 Oi W →
    CallsIn Fence.wide n P g (#[.func (.yield l) #[] #[]] ++ lb) W fun e W' =>
      (∃ v, e = .returned v ∧ ∃ X, (fin ∧ J N X W') ∨ ∃ k, k ≤ N ∧ Jx k X W') ∨ (∃ chain k X, e = .panicked chain ∧ Pn k chain ∧ J k X W')

theorem wp_rangeXF {n : Nat} {P : Program} {g : Operand} {ps : Array Tmp} {assign body : Code} {Q : Exit → Act → World → Prop} {a : Act} {w : World}
    {gf : Nat} {lb : Array Value} (hg : a.eval g = .func (.func gf) #[] lb) (eg : ∀ args w, (callFunc gf args).run P w = .ok (.enter gf args) w)
    {E : Nat → Nat → (Nat → Prop) → (Nat → Prop) → Array Value → World → Prop} {N : Nat} {fin : Prop} {Pn : Nat → List PanicEntry → Prop} {Oi R : Nat → Prop} {w0 : World} (hseq : SeqXF (n - 1) P gf lb E N fin Pn Oi R w0)
    (hw0 : Kept R w0 w) (hps : ∀ b k X G args W, E b k X G args W → args.size = ps.size) (Ob : Nat → Prop)
    (hOi : ∀ b, Oi b → b < w.heap.size) (hOb : ∀ b, Ob b → b < w.heap.size) (hR : ∀ b, R b → b < w.heap.size ∧ ¬ Ob b)
    (I : Nat → (Nat → Prop) → World → Prop) (Ix : Code → Nat → (Nat → Prop) → World → Prop) (Ax : Nat → (Nat → Prop) → (Nat → Prop) → Act → World → Prop)
    (hI : ∀ k X X' A B, I k X A → Kept (fun b => ¬ X b ∧ b ≠ w.heap.size ∧ b ≠ w.heap.size + 1) A B → (∀ b, X' b → X b ∨ A.heap.size ≤ b) → I k X' B)
    (hIx : ∀ c k X X' A B, Ix c k X A → Kept (fun b => ¬ X b ∧ b ≠ w.heap.size ∧ b ≠ w.heap.size + 1) A B → (∀ b, X' b → X b ∨ A.heap.size ≤ b) → Ix c k X' B)
    (hAx : ∀ k X G a' A B, Ax k X G a' A → Kept (fun b => b ≠ w.heap.size + 1) A B → Ax k X G a' B)
    (h0 : ∀ W, Kept (fun _ => True) w W → W.heap.size = w.heap.size + 2 → I 0 Oi W)
    (hassign : ∀ l k X G args W, I k (fun b => X b ∨ G b) W → w.heap.size + 2 ≤ W.heap.size → k < N → (∀ b, X b ∨ G b → b < W.heap.size) → (∀ b, X b ∨ G b → Oi b ∨ w.heap.size + 2 ≤ b) → E (w.heap.size + 2) k X G args W → assign.wpIn (Fence.wide.inRound l) (n - 1 - 1) P (Exit.then (fun a' W' => Kept (fun b => (b < w.heap.size + 2 ∧ ¬ Ob b) ∨ X b) W W' ∧ I k (fun b => X b ∨ G b) W' ∧ Ax k X G a' W') (fun _ _ _ => False))
      { tmps := (ps.zip args).foldl (fun t (p, v) => t.setIfInBounds p v) a.tmps, defers := [] } W)
    (hbody : ∀ l k X G a' W, I k (fun b => X b ∨ G b) W → Ax k X G a' W → w.heap.size + 2 ≤ W.heap.size → k < N → (∀ b, X b ∨ G b → b < W.heap.size) → (∀ b, X b ∨ G b → Oi b ∨ w.heap.size + 2 ≤ b) → body.wpIn (Fence.wide.inRound l) (n - 1 - 1) P (postX w.heap.size Ob I Ix k X W) a' W)
    (hdone : fin → ∀ X W, I N X W → W.heap[w.heap.size]? = some (.deferred (some [])) → Q .normal { a with defers := { target := .collected w.heap.size, args := #[] } :: a.defers } W)
    (hstop : ∀ c k X W, k ≤ N → Ix c k X W → W.heap[w.heap.size]? = some (.deferred (some [])) → c.wpIn Fence.wide n P Q { a with defers := { target := .collected w.heap.size, args := #[] } :: a.defers } W)
    (hpanic : ∀ k chain X W, Pn k chain → I k X W → W.heap[w.heap.size]? = some (.deferred (some [])) → Q (.panic chain) { a with defers := { target := .collected w.heap.size, args := #[] } :: a.defers } W) :
    (Code.rangeFunc g ps assign body).wpIn Fence.wide n P Q a w := by
  refine wpIn_rangeFunc ?_
  intro fn hfn
  rw [show Fence.wide.round = none from rfl]
  obtain ⟨rec, hrec⟩ : ∃ rec : LoopState → Option Code → Loop, rec = fun st pe => { state := st, pending := pe, fn, tmps := a.tmps, params := ps, assign, body, defers := w.heap.size } := ⟨_, rfl⟩
  obtain ⟨W1, hW1⟩ : ∃ W1, (w.alloc (.deferred (some []))).alloc (.loop (rec .ready none)) = W1 := ⟨_, rfl⟩
  have hL1 : W1.heap[w.heap.size + 1]? = some (.loop (rec .ready none)) := by
    rw [← hW1]; have := World.alloc_heap_new (w.alloc (.deferred (some []))) (.loop (rec .ready none)); rwa [World.size_alloc] at this
  have hK1 : W1.heap[w.heap.size]? = some (.deferred (some [])) := by
    rw [← hW1]; exact (Below.heap_alloc _ _ _ (by simp)).trans (World.alloc_heap_new w _)
  have hkw : ∀ R, Kept R w W1 := fun R => by rw [← hW1]; exact (Kept.alloc R w _).trans (Kept.alloc R _ _)
  have hW1z : W1.heap.size = w.heap.size + 2 := by rw [← hW1]; simp
  have hI1 : I 0 Oi W1 := h0 W1 (hkw _) (by rw [← hW1]; simp)
  refine ⟨w.heap.size + 1, [{ target := .collected w.heap.size, args := #[] }], W1, { target := .fn (.func gf) lb, args := #[.func (.yield (w.heap.size + 1)) #[] #[]] }, W1, gf,
    #[.func (.yield (w.heap.size + 1)) #[] #[]] ++ lb, W1, ?_, ?_, ?_, ?_, fun h => by simp [Fence.wide] at h, ?_⟩
  · rw [← hW1, hrec]; exact run_enterLoop_outer _ _ _ _ _
  · simp only [resolve, hg]
    simp [go_sem]
  · intro f' _; trivial
  · simp [invoke, go_sem, eg]
  · have st : ∀ (X : Nat → Prop) (A B : World) (b : Nat) (o : Obj), (¬ X b) → A.heap[b]? = some o → Kept (fun b => ¬ X b) A B → B.heap[b]? = some o := fun X A B b o hb ho hk => (hk.same b hb (Array.getElem?_eq_some_iff.1 ho).1).trans ho
    have n0 : ∀ X : Nat → Prop, (∀ b, X b → Oi b ∨ w.heap.size + 2 ≤ b) → ¬ X w.heap.size := fun X hX h => by rcases hX _ h with h | h; (have := hOi _ h; omega); omega
    have n1 : ∀ X : Nat → Prop, (∀ b, X b → Oi b ∨ w.heap.size + 2 ≤ b) → ¬ X (w.heap.size + 1) := fun X hX h => by rcases hX _ h with h | h; (have := hOi _ h; omega); omega
    have nX : ∀ (X X' : Nat → Prop) (A : World) (o : Obj), (∀ b, X b → Oi b ∨ w.heap.size + 2 ≤ b) → A.heap[w.heap.size + 1]? = some o → (∀ b, X' b → X b ∨ A.heap.size ≤ b) → ∀ b, X' b → Oi b ∨ w.heap.size + 2 ≤ b := fun X X' A o hX hA hX' b hb => by
      have := (Array.getElem?_eq_some_iff.1 hA).1
      rcases hX' b hb with h | h
      · exact hX b h
      · exact .inr (by omega)
    refine (hseq (w.heap.size + 1)
      (fun k X W => I k X W ∧ W.heap[w.heap.size + 1]? = some (.loop (rec .ready none)) ∧ W.heap[w.heap.size]? = some (.deferred (some [])) ∧ ∀ b, X b → Oi b ∨ w.heap.size + 2 ≤ b)
      (fun k X W => ∃ c, Ix c k X W ∧ W.heap[w.heap.size + 1]? = some (.loop (rec .done (some c))) ∧ W.heap[w.heap.size]? = some (.deferred (some [])) ∧ ∀ b, X b → Oi b ∨ w.heap.size + 2 ≤ b)
      W1 (hw0.trans (hkw R))
      (fun k X X' A B hs hk hX' => ⟨hI k X X' A B hs.1 (hk.mono fun _ _ h => h.1) hX', st X A B _ _ (n1 X hs.2.2.2) hs.2.1 hk, st X A B _ _ (n0 X hs.2.2.2) hs.2.2.1 hk, nX X X' A _ hs.2.2.2 hs.2.1 hX'⟩)
      (fun k X X' A B hs hk hX' => by
        obtain ⟨c, hc, hl, hd, hX⟩ := hs
        exact ⟨c, hIx c k X X' A B hc (hk.mono fun _ _ h => h.1) hX', st X A B _ _ (n1 X hX) hl hk, st X A B _ _ (n0 X hX) hd hk, nX X X' A _ hX hl hX'⟩)
      ?_ ⟨hI1, hL1, hK1, fun b hb => .inl hb⟩).mono ?_
    · -- one round
      rintro k X G args W ⟨hi, hl, hk, hXG⟩ hXW hE hlen
      have hX : ∀ b, X b → Oi b ∨ w.heap.size + 2 ≤ b := fun b hb => hXG b (.inl hb)
      have m0 := n0 X hX
      have m1 := n1 X hX
      have hlt : w.heap.size + 1 < W.heap.size := (Array.getElem?_eq_some_iff.1 hl).1
      have hy := run_yield (P := P) (args := args) hl (by rw [hrec]; exact hps _ k X G args W hE)
      rw [hrec] at hy
      refine ⟨fn, _, assign, body, hy, roundIn_of_wpIn hfn (wpIn_mono (hassign _ k X G args W hi (by omega) hlen hXW hXG (by rwa [hW1z] at hE)) ?_)⟩
      rintro e1 a1 Wa hq1
      cases e1 with
      | normal =>
        obtain ⟨hka, hia, hax⟩ := hq1
        have hla := (hka.same _ (.inl ⟨by omega, fun h => by have := hOb _ h; omega⟩) hlt).trans hl
        have hda := (hka.same _ (.inl ⟨by omega, fun h => by have := hOb _ h; omega⟩) (by omega)).trans hk
        have hlta : w.heap.size + 1 < Wa.heap.size := Nat.lt_of_lt_of_le hlt hka.size
        refine ⟨_, run_beginRound hla (by rw [hrec]), ?_⟩
        have hkb : Kept (fun b => b ≠ w.heap.size + 1) Wa (Wa.putObj (w.heap.size + 1) (.loop { rec .ready none with state := .busy })) := Kept.putObj _ _ _
        have hl2 : (Wa.putObj (w.heap.size + 1) (.loop { rec .ready none with state := .busy })).heap[w.heap.size + 1]? = some (.loop { rec .ready none with state := .busy }) := World.putObj_heap_same hlta
        have hk2 : (Wa.putObj (w.heap.size + 1) (.loop { rec .ready none with state := .busy })).heap[w.heap.size]? = some (.deferred (some [])) := (World.putObj_heap_other (by omega)).trans hda
        refine wpIn_mono (hbody _ k X G a1 _ (hI k _ _ _ _ hia (hkb.mono fun _ _ h => h.2.2) (fun _ h => .inl h)) (hAx k X G a1 _ _ hax hkb) (by rw [World.putObj_size]; omega) hlen (fun b hb => by rw [World.putObj_size]; have := hXW b hb; have := hka.size; omega) hXG) ?_
        have r1 : ∀ b, (R b ∨ X b) → (b < w.heap.size + 2 ∧ ¬ Ob b) ∨ X b := fun b hb => hb.imp (fun h => ⟨by have := (hR b h).1; omega, (hR b h).2⟩) id
        have r2 : ∀ b, (R b ∨ X b) → b ≠ w.heap.size + 1 := fun b hb e => by
          rcases hb with h | h
          · have := (hR b h).1; omega
          · rw [e] at h; exact m1 h
        have hkR : Kept (fun b => R b ∨ X b) W (Wa.putObj (w.heap.size + 1) (.loop { rec .ready none with state := .busy })) :=
          (hka.mono fun b _ hb => r1 b hb).trans (hkb.mono fun b _ hb => r2 b hb)
        have fin : ∀ (jump : Option Code) (W3 : World), Kept (fun b => (b < w.heap.size + 2 ∧ ¬ Ob b) ∨ X b) (Wa.putObj (w.heap.size + 1) (.loop { rec .ready none with state := .busy })) W3 →
            (Instr.endRound (w.heap.size + 1) jump).run P W3 = .ok (.bool jump.isNone) (W3.putObj (w.heap.size + 1) (.loop (rec (if jump.isNone then .ready else .done) jump))) ∧
            (W3.putObj (w.heap.size + 1) (.loop (rec (if jump.isNone then .ready else .done) jump))).heap[w.heap.size + 1]? = some (.loop (rec (if jump.isNone then .ready else .done) jump)) ∧
            (W3.putObj (w.heap.size + 1) (.loop (rec (if jump.isNone then .ready else .done) jump))).heap[w.heap.size]? = some (.deferred (some [])) := fun jump W3 hk3 => by
          have hl3 := (hk3.same _ (.inl ⟨by omega, fun h => by have := hOb _ h; omega⟩) (by rw [World.putObj_size]; exact hlta)).trans hl2
          have hd3 := (hk3.same _ (.inl ⟨by omega, fun h => by have := hOb _ h; omega⟩) (by rw [World.putObj_size]; omega)).trans hk2
          have := run_endRound (P := P) jump hl3
          rw [hrec] at this ⊢
          exact ⟨this, World.putObj_heap_same (Array.getElem?_eq_some_iff.1 hl3).1, (World.putObj_heap_other (by omega)).trans hd3⟩
        rintro e a3 W3 hp
        cases e with
        | normal =>
          obtain ⟨hk3, hi3⟩ := hp
          obtain ⟨hr, hl4, hk4⟩ := fin none W3 hk3
          refine ⟨_, _, hr, .inl ⟨rfl, ⟨hI _ X X _ _ hi3 ((Kept.putObj W3 _ _).mono fun b _ h => h.2.2) (fun _ h => .inl h), hl4, hk4, hX⟩, ?_⟩⟩
          exact hkR.trans ((hk3.mono fun b _ hb => r1 b hb).trans ((Kept.putObj W3 _ _).mono fun b _ hb => r2 b hb))
        | ret =>
          obtain ⟨hk3, hi3⟩ := hp
          obtain ⟨hr, hl4, hk4⟩ := fin (some .ret) W3 hk3
          exact ⟨_, _, hr, .inr ⟨rfl, ⟨.ret, hIx _ _ X X _ _ hi3 ((Kept.putObj W3 _ _).mono fun b _ h => h.2.2) (fun _ h => .inl h), hl4, hk4, hX⟩, hkR.trans ((hk3.mono fun b _ hb => r1 b hb).trans ((Kept.putObj W3 _ _).mono fun b _ hb => r2 b hb))⟩⟩
        | exit id =>
          obtain ⟨hk3, hi3⟩ := hp
          obtain ⟨hr, hl4, hk4⟩ := fin (some (.exit id)) W3 hk3
          exact ⟨_, _, hr, .inr ⟨rfl, ⟨.exit id, hIx _ _ X X _ _ hi3 ((Kept.putObj W3 _ _).mono fun b _ h => h.2.2) (fun _ h => .inl h), hl4, hk4, hX⟩, hkR.trans ((hk3.mono fun b _ hb => r1 b hb).trans ((Kept.putObj W3 _ _).mono fun b _ hb => r2 b hb))⟩⟩
        | goto t =>
          obtain ⟨hk3, hi3⟩ := hp
          obtain ⟨hr, hl4, hk4⟩ := fin (some (.goto t)) W3 hk3
          exact ⟨_, _, hr, .inr ⟨rfl, ⟨.goto t, hIx _ _ X X _ _ hi3 ((Kept.putObj W3 _ _).mono fun b _ h => h.2.2) (fun _ h => .inl h), hl4, hk4, hX⟩, hkR.trans ((hk3.mono fun b _ hb => r1 b hb).trans ((Kept.putObj W3 _ _).mono fun b _ hb => r2 b hb))⟩⟩
        | panic ch => exact hp.elim
        | outgrown => exact hp.elim
      | ret => exact hq1.elim
      | exit id => exact hq1.elim
      | goto t => exact hq1.elim
      | panic ch => exact hq1.elim
      | outgrown => exact hq1.elim
    · -- behind the iterator
      rintro e W2 (⟨v, rfl, X, (⟨hfin, hi, hl, hk, hX⟩ | ⟨k, hkN, c, hi, hl, hk, hX⟩)⟩ | ⟨chain, k, X, rfl, hpn, hi, hl, hk, hX⟩)
      · exact ⟨none, _, by have := run_endLoop (P := P) hl (by rw [hrec]; simp); rw [hrec] at this; exact this, hdone hfin X _ (hI _ X X _ _ hi ((Kept.putObj W2 _ _).mono fun b _ h => h.2.2) (fun _ h => .inl h)) ((World.putObj_heap_other (by omega)).trans hk)⟩
      · exact ⟨some c, _, by have := run_endLoop (P := P) hl (by rw [hrec]; simp); rw [hrec] at this; exact this, hstop c k X _ hkN (hIx c k X X _ _ hi ((Kept.putObj W2 _ _).mono fun b _ h => h.2.2) (fun _ h => .inl h)) ((World.putObj_heap_other (by omega)).trans hk)⟩
      · exact hpanic k chain X W2 hpn hi hk


/-- What a loop that appends to a variable in a box L holds, beside an iterator whose blocks are X. -/
structure BoxX {α : Type} (e : TypeId) (k : Nat) (cells : α → List Value) (w : World) (L Z : Nat) (xs : List α) (X : Nat → Prop) (W : World) : Prop where
  own : ∃ v, W.cell? ⟨L, 0, none⟩ = some v ∧ W.frozen? ⟨L, 0, none⟩ = false ∧ Own W Z e k cells v xs ∧ ∀ g, v.ownBlock = some g → ¬ X g
  lt : L < W.heap.size
  bl : Below w.heap.size w W
  xge : ∀ b, X b → Z ≤ b
  zle : Z ≤ W.heap.size
section
variable {α : Type} {e : TypeId} {k : Nat} {cells : α → List Value} {w W W' : World} {L Z : Nat} {xs : List α} {X X' R : Nat → Prop}
theorem BoxX.kept (h : BoxX e k cells w L Z xs X W) (hk : Kept R W W') (h1 : ∀ b, Z ≤ b → ¬ X b → R b) (h2 : R L) (h3 : ∀ b, b < w.heap.size → R b) (hX : ∀ b, X' b → X b ∨ W.heap.size ≤ b) : BoxX e k cells w L Z xs X' W' := by
  obtain ⟨v, c, f, o, n⟩ := h.own
  refine ⟨⟨v, (hk.cell (p := ⟨L, 0, none⟩) h2 h.lt).trans c, (hk.frozen (p := ⟨L, 0, none⟩) h2 h.lt).trans f, o.keptG hk (fun g hg => h1 g (o.blockG hg).1 (n g hg)), fun g hg hx => ?_⟩, Nat.lt_of_lt_of_le h.lt hk.size, h.bl.trans (hk.below h3 h.bl.size), fun b hb => ?_, Nat.le_trans h.zle hk.size⟩
  · rcases hX g hx with h' | h'
    · exact n g hg h'
    · have := (o.blockG hg).2; omega
  · rcases hX b hb with h' | h'
    · exact h.xge b h'
    · have := h.zle; omega
theorem BoxX.step {W1 wv : World} {v vv : Value} {x : α} (h : BoxX e k cells w L Z xs X W) (hc : W.cell? ⟨L, 0, none⟩ = some v) (hf : W.frozen? ⟨L, 0, none⟩ = false) (ho : Own W Z e k cells v xs) (hn : ∀ g, v.ownBlock = some g → ¬ X g) (hX' : ∀ b, X' b → X b) (hXlt : ∀ b, X b → b < W.heap.size)
    (hb : Below W.heap.size W W1) (hg : W1.grownBy wv v.ownBlock) (ho1 : Own wv Z e k cells vv (xs ++ [x])) (hat : vv.ownBlock = v.ownBlock ∨ vv.ownBlock = some W1.heap.size) (hL : L < Z) (hw : w.heap.size ≤ L) :
    BoxX e k cells w L Z (xs ++ [x]) X' (wv.setCell ⟨L, 0, none⟩ vv) ∧ Kept (fun b => ¬ v.ownBlock = some b ∧ b ≠ L) W (wv.setCell ⟨L, 0, none⟩ vv) := by
  have k1 : Kept (fun b => ¬ v.ownBlock = some b) W wv := ((Kept.all (fun _ => True) hb).mono fun _ _ _ => trivial).trans ((Kept.grown hg).mono fun b _ hb e => hb e.symm)
  have hLv : ¬ v.ownBlock = some L := fun e => by have := (ho.blockG e).1; omega
  have k2 : Kept (fun b => ¬ v.ownBlock = some b ∧ b ≠ L) W (wv.setCell ⟨L, 0, none⟩ vv) := (k1.mono fun b _ h => h.1).trans ((Kept.setCell wv ⟨L, 0, none⟩ vv).mono fun b _ h => h.2)
  have c1 : wv.cell? ⟨L, 0, none⟩ = some v := (k1.cell (p := ⟨L, 0, none⟩) hLv h.lt).trans hc
  have f1 : wv.frozen? ⟨L, 0, none⟩ = false := (k1.frozen (p := ⟨L, 0, none⟩) hLv h.lt).trans hf
  have hLvv : ∀ g, vv.ownBlock = some g → g ≠ L := fun g hg => by have := (ho1.blockG hg).1; omega
  refine ⟨⟨⟨vv, World.cell?_setCell_same' _ _ _ (by rw [c1]; rfl), by rw [World.frozen?_setCell]; exact f1, ho1.keptG (Kept.setCell wv ⟨L, 0, none⟩ vv) hLvv, fun g hg hx => ?_⟩, Nat.lt_of_lt_of_le h.lt k2.size, h.bl.trans (k2.below (fun b hb => ⟨fun e => by have := (ho.blockG e).1; omega, by omega⟩) h.bl.size), fun b hb => h.xge b (hX' b hb), Nat.le_trans h.zle k2.size⟩, k2⟩
  rcases hat with h' | h'
  · exact hn g (h'.symm.trans hg) (hX' g hx)
  · rw [h'] at hg
    injection hg with hg
    have := hXlt g (hX' g hx)
    have := hb.size
    omega
end
end Go.Proofs.YtgfghffihjfbpaaGreatDoor
