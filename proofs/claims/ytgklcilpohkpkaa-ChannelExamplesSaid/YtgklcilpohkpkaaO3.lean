/- Channel: what the search for the best order holds on to. -/
import Derived.Test.YtgklcilpohkpkaaO2
set_option linter.unusedVariables false
set_option linter.unusedSimpArgs false
namespace Go.Proofs.Ytgklcilpohkpkaa
open Go.RowKit Go.Shelf
def ints (o : List Nat) : List Int := o.map (fun k : Nat => (k : Int))
theorem ints_snoc (o : List Nat) (k : Nat) : ints (o ++ [k]) = ints o ++ [(k : Int)] := by simp [ints]
theorem ints_len (o : List Nat) : (ints o).length = o.length := by simp [ints]
/-- Where all lies. -/
structure OrdP where
  bL : Nat
  bF : Nat
  bM : Nat
  bO : Nat
  bT : Nat
  bX : Nat
  bn : Nat
  bU : Nat
  bN : Nat
  base : Nat
  Ac : Option Addr
  Af : Option Addr
  Aff : Option Addr
  Am : Option Addr
  nc : Nat
  cc : Nat
  nf : Nat
  cf : Nat
  nk : Nat
  cff : Nat
  cm : Nat
  dry : Int
  days : Int
  a : Int
  b : Int
  cs : List Ca
  fs : List Int
  fl : List Int
  ml : List Int
def OrdP.net (p : OrdP) : List Value := [.slice p.Ac p.nc p.cc, .slice p.Af p.nf p.cf, .int .i64 p.dry, .int .i64 p.days]
def OrdP.caps (p : OrdP) : Array Value := #[.pointer (some ⟨p.bn, 0, none⟩), .pointer (some ⟨p.bF, 0, none⟩), .pointer (some ⟨p.bX, 0, none⟩), .pointer (some ⟨p.bL, 0, none⟩), .pointer (some ⟨p.bU, 0, none⟩), .pointer (some ⟨p.bT, 0, none⟩), .pointer (some ⟨p.bO, 0, none⟩), .pointer (some ⟨p.bM, 0, none⟩), .pointer (some ⟨p.bN, 0, none⟩)]
def OrdP.val (p : OrdP) (o : List Nat) : Int := valO p.cs p.fs p.dry (p.days * 1440) p.a p.b p.fl p.ml o
/-- What is given. -/
structure OrdC (w0 : World) (p : OrdP) : Prop where
  l0 : w0.heap.size ≤ p.bL
  l1 : p.bL < p.bF
  l2 : p.bF < p.bM
  l3 : p.bM < p.bO
  l4 : p.bO < p.bT
  l5 : p.bT < p.bX
  l6 : p.bX < p.bn
  l7 : p.bn < p.bU
  l8 : p.bU < p.bN
  l9 : p.bN < p.base
  net : NetAt w0 p.Ac p.Af p.nc p.nf p.cs p.fs
  rf : Rd w0 w0.heap.size icell p.Aff p.fl
  rm : Rd w0 w0.heap.size icell p.Am p.ml
  ek : p.nk = p.fl.length
  em : p.nk = p.ml.length
  ok : netOk p.cs p.fs p.dry p.days = true
  sp : Sp.ok 0 13000000 ⟨p.a, p.b⟩ = true
  tn : turnsOk p.nf (p.days * 1440) p.fl p.ml = true
  k6 : p.nk ≤ 6
/-- What stands, the rows named. -/
structure OrdQ (w0 : World) (p : OrdP) (ns : List Int) (us : List Us) (os : List Int) (t : Int) (vN vU vO : Value) (W : World) : Prop where
  net : At W p.bX p.net
  flw : At W p.bL [.int .i64 p.a, .int .i64 p.b]
  fb : At W p.bF [.slice p.Aff p.nk p.cff]
  mb : At W p.bM [.slice p.Am p.nk p.cm]
  nx : At W p.bN [.func (.func 78) #[] p.caps]
  tot : At W p.bT [.int .i64 t]
  hN : At W p.bn [vN]
  hU : At W p.bU [vU]
  hO : At W p.bO [vO]
  oN : Own W p.base 3 1 icell vN ns
  oU : Own W p.base 74 3 Us.cells vU us
  oO : Own W p.base 3 1 icell vO os
  s1 : ∀ g, vN.ownBlock = some g → ¬ vU.ownBlock = some g ∧ ¬ vO.ownBlock = some g
  s2 : ∀ g, vU.ownBlock = some g → ¬ vO.ownBlock = some g
  fn : W.frozen? ⟨p.bn, 0, none⟩ = false
  fu : W.frozen? ⟨p.bU, 0, none⟩ = false
  ft : W.frozen? ⟨p.bT, 0, none⟩ = false
  fo : W.frozen? ⟨p.bO, 0, none⟩ = false
  bl : Below w0.heap.size w0 W
  sz : p.base ≤ W.heap.size
def OrdS (w0 : World) (p : OrdP) (now : List Nat) (st : List Nat × Int) (W : World) : Prop := ∃ vN vU vO, OrdQ w0 p (ints now) (rowSt p.fl p.ml now).1 (ints st.1) st.2 vN vU vO W
section
variable {w0 W W' : World} {p : OrdP} {ns : List Int} {us : List Us} {os : List Int} {t : Int} {vN vU vO : Value}
theorem OrdQ.kept {R : Nat → Prop} (h : OrdQ w0 p ns us os t vN vU vO W) (hc : OrdC w0 p) (hk : Kept R W W') (h0 : ∀ x, x < p.base → R x) (r1 : ∀ g, vN.ownBlock = some g → R g) (r2 : ∀ g, vU.ownBlock = some g → R g) (r3 : ∀ g, vO.ownBlock = some g → R g) : OrdQ w0 p ns us os t vN vU vO W' := by
  obtain ⟨l0, l1, l2, l3, l4, l5, l6, l7, l8, l9, _, _, _, _, _, _, _, _, _⟩ := hc
  have hs := h.sz
  exact ⟨h.net.kept hk (h0 _ (by omega)), h.flw.kept hk (h0 _ (by omega)), h.fb.kept hk (h0 _ (by omega)), h.mb.kept hk (h0 _ (by omega)), h.nx.kept hk (h0 _ (by omega)), h.tot.kept hk (h0 _ (by omega)), h.hN.kept hk (h0 _ (by omega)), h.hU.kept hk (h0 _ (by omega)), h.hO.kept hk (h0 _ (by omega)),
    h.oN.keptB hk r1, h.oU.keptB hk r2, h.oO.keptB hk r3, h.s1, h.s2,
    (hk.frozen (p := ⟨p.bn, 0, none⟩) (h0 _ (by show p.bn < _; omega)) (by show p.bn < _; omega)).trans h.fn, (hk.frozen (p := ⟨p.bU, 0, none⟩) (h0 _ (by show p.bU < _; omega)) (by show p.bU < _; omega)).trans h.fu,
    (hk.frozen (p := ⟨p.bT, 0, none⟩) (h0 _ (by show p.bT < _; omega)) (by show p.bT < _; omega)).trans h.ft, (hk.frozen (p := ⟨p.bO, 0, none⟩) (h0 _ (by show p.bO < _; omega)) (by show p.bO < _; omega)).trans h.fo,
    h.bl.trans (hk.below (fun b hb => h0 b (by omega)) h.bl.size), Nat.le_trans h.sz hk.size⟩
theorem OrdQ.below (h : OrdQ w0 p ns us os t vN vU vO W) (hc : OrdC w0 p) (hb : Below W.heap.size W W') : OrdQ w0 p ns us os t vN vU vO W' := h.kept hc (Kept.all (fun _ => True) hb) (fun _ _ => trivial) (fun _ _ => trivial) (fun _ _ => trivial) (fun _ _ => trivial)
theorem OrdS.below {now : List Nat} {st : List Nat × Int} (h : OrdS w0 p now st W) (hc : OrdC w0 p) (hb : Below W.heap.size W W') : OrdS w0 p now st W' := by
  obtain ⟨vN, vU, vO, h⟩ := h
  exact ⟨vN, vU, vO, h.below hc hb⟩
theorem own_bl {α : Type} {cells : α → List Value} {e : TypeId} {k base : Nat} {v : Value} {xs : List α} (h : Own W base e k cells v xs) (g : Nat) (hg : v.ownBlock = some g) : base ≤ g ∧ g < W.heap.size := ⟨(own_block h hg).1, (own_block h hg).2⟩
/-- A number more. -/
theorem OrdQ.pushN {x : Int} {o : Obj} {wv : World} {v' : Value} (h : OrdQ w0 p ns us os t vN vU vO W) (hc : OrdC w0 p) (hown : Own wv p.base 3 1 icell v' (ns ++ [x])) (hg : (W.alloc o).grownBy wv vN.ownBlock) (hat : v'.ownBlock = vN.ownBlock ∨ v'.ownBlock = some (W.alloc o).heap.size) :
    OrdQ w0 p (ns ++ [x]) us os t v' vU vO (wv.setCell ⟨p.bn, 0, none⟩ v') := by
  have hk1 : Kept (fun b => ¬ vN.ownBlock = some b) W wv := kept_app2 h.oN (below_new W o) hg
  have hk : Kept (fun b => ¬ vN.ownBlock = some b ∧ ¬ b = p.bn) W (wv.setCell ⟨p.bn, 0, none⟩ v') := (hk1.mono fun b _ hb => hb.1).trans ((Kept.setCell wv ⟨p.bn, 0, none⟩ v').mono fun b _ hb => hb.2)
  obtain ⟨l0, l1, l2, l3, l4, l5, l6, l7, l8, l9, _, _, _, _, _, _, _, _, _⟩ := hc
  have hs := h.sz
  have hrow : ∀ b, b < p.base → ¬ vN.ownBlock = some b := fun b hb e => by have := (own_bl h.oN b e).1; omega
  have box : ∀ b, b < p.base → ¬ b = p.bn → (¬ vN.ownBlock = some b ∧ ¬ b = p.bn) := fun b hb hn => ⟨hrow b hb, hn⟩
  have hn1 := h.hN.kept hk1 (hrow _ (by omega))
  have hsz : (W.alloc o).heap.size = W.heap.size + 1 := by simp
  refine ⟨h.net.kept hk (box _ (by omega) (by omega)), h.flw.kept hk (box _ (by omega) (by omega)), h.fb.kept hk (box _ (by omega) (by omega)), h.mb.kept hk (box _ (by omega) (by omega)), h.nx.kept hk (box _ (by omega) (by omega)), h.tot.kept hk (box _ (by omega) (by omega)), by simpa using hn1.set (j := 0) v' (by simp), h.hU.kept hk (box _ (by omega) (by omega)), h.hO.kept hk (box _ (by omega) (by omega)),
    hown.setCell (fun e => by have := (own_bl hown _ e).1; simp at this; omega) _, h.oU.keptB hk (fun g hg2 => ⟨fun e => (h.s1 g e).1 hg2, by have := (own_bl h.oU g hg2).1; omega⟩), h.oO.keptB hk (fun g hg2 => ⟨fun e => (h.s1 g e).2 hg2, by have := (own_bl h.oO g hg2).1; omega⟩), fun g hg2 => ?_, h.s2,
    ?_, (hk.frozen (p := ⟨p.bU, 0, none⟩) (box _ (by show p.bU < _; omega) (by show ¬ p.bU = _; omega)) (by show p.bU < _; omega)).trans h.fu,
    (hk.frozen (p := ⟨p.bT, 0, none⟩) (box _ (by show p.bT < _; omega) (by show ¬ p.bT = _; omega)) (by show p.bT < _; omega)).trans h.ft, (hk.frozen (p := ⟨p.bO, 0, none⟩) (box _ (by show p.bO < _; omega) (by show ¬ p.bO = _; omega)) (by show p.bO < _; omega)).trans h.fo,
    h.bl.trans (hk.below (fun b hb => box b (by omega) (by omega)) h.bl.size), Nat.le_trans h.sz hk.size⟩
  · rcases hat with e | e
    · exact h.s1 g (e ▸ hg2)
    · rw [hg2] at e
      injection e with e
      exact ⟨fun e2 => by have := (own_bl h.oU g e2).2; omega, fun e2 => by have := (own_bl h.oO g e2).2; omega⟩
  · rw [World.frozen?_setCell]
    exact (hk1.frozen (p := ⟨p.bn, 0, none⟩) (hrow _ (by show p.bn < _; omega)) (by show p.bn < _; omega)).trans h.fn
/-- A use more. -/
theorem OrdQ.pushU {x : Us} {o : Obj} {wv : World} {v' : Value} (h : OrdQ w0 p ns us os t vN vU vO W) (hc : OrdC w0 p) (hown : Own wv p.base 74 3 Us.cells v' (us ++ [x])) (hg : (W.alloc o).grownBy wv vU.ownBlock) (hat : v'.ownBlock = vU.ownBlock ∨ v'.ownBlock = some (W.alloc o).heap.size) :
    OrdQ w0 p ns (us ++ [x]) os t vN v' vO (wv.setCell ⟨p.bU, 0, none⟩ v') := by
  have hk1 : Kept (fun b => ¬ vU.ownBlock = some b) W wv := kept_app2 h.oU (below_new W o) hg
  have hk : Kept (fun b => ¬ vU.ownBlock = some b ∧ ¬ b = p.bU) W (wv.setCell ⟨p.bU, 0, none⟩ v') := (hk1.mono fun b _ hb => hb.1).trans ((Kept.setCell wv ⟨p.bU, 0, none⟩ v').mono fun b _ hb => hb.2)
  obtain ⟨l0, l1, l2, l3, l4, l5, l6, l7, l8, l9, _, _, _, _, _, _, _, _, _⟩ := hc
  have hs := h.sz
  have hrow : ∀ b, b < p.base → ¬ vU.ownBlock = some b := fun b hb e => by have := (own_bl h.oU b e).1; omega
  have box : ∀ b, b < p.base → ¬ b = p.bU → (¬ vU.ownBlock = some b ∧ ¬ b = p.bU) := fun b hb hn => ⟨hrow b hb, hn⟩
  have hn1 := h.hU.kept hk1 (hrow _ (by omega))
  have hsz : (W.alloc o).heap.size = W.heap.size + 1 := by simp
  refine ⟨h.net.kept hk (box _ (by omega) (by omega)), h.flw.kept hk (box _ (by omega) (by omega)), h.fb.kept hk (box _ (by omega) (by omega)), h.mb.kept hk (box _ (by omega) (by omega)), h.nx.kept hk (box _ (by omega) (by omega)), h.tot.kept hk (box _ (by omega) (by omega)), h.hN.kept hk (box _ (by omega) (by omega)), by simpa using hn1.set (j := 0) v' (by simp), h.hO.kept hk (box _ (by omega) (by omega)),
    h.oN.keptB hk (fun g hg2 => ⟨(h.s1 g hg2).1, by have := (own_bl h.oN g hg2).1; omega⟩), hown.setCell (fun e => by have := (own_bl hown _ e).1; simp at this; omega) _, h.oO.keptB hk (fun g hg2 => ⟨fun e => h.s2 g e hg2, by have := (own_bl h.oO g hg2).1; omega⟩), fun g hg2 => ⟨fun e2 => ?_, (h.s1 g hg2).2⟩, fun g hg2 => ?_,
    (hk.frozen (p := ⟨p.bn, 0, none⟩) (box _ (by show p.bn < _; omega) (by show ¬ p.bn = _; omega)) (by show p.bn < _; omega)).trans h.fn, ?_,
    (hk.frozen (p := ⟨p.bT, 0, none⟩) (box _ (by show p.bT < _; omega) (by show ¬ p.bT = _; omega)) (by show p.bT < _; omega)).trans h.ft, (hk.frozen (p := ⟨p.bO, 0, none⟩) (box _ (by show p.bO < _; omega) (by show ¬ p.bO = _; omega)) (by show p.bO < _; omega)).trans h.fo,
    h.bl.trans (hk.below (fun b hb => box b (by omega) (by omega)) h.bl.size), Nat.le_trans h.sz hk.size⟩
  · rcases hat with e | e
    · exact (h.s1 g hg2).1 (e ▸ e2)
    · rw [e2] at e
      injection e with e
      have := (own_bl h.oN g hg2).2
      omega
  · rcases hat with e | e
    · exact h.s2 g (e ▸ hg2)
    · rw [hg2] at e
      injection e with e
      exact fun e2 => by have := (own_bl h.oO g e2).2; omega
  · rw [World.frozen?_setCell]
    exact (hk1.frozen (p := ⟨p.bU, 0, none⟩) (hrow _ (by show p.bU < _; omega)) (by show p.bU < _; omega)).trans h.fu
theorem own_pop {α : Type} {cells : α → List Value} {e : TypeId} {k base n c : Nat} {A : Option Addr} {xs : List α} {x : α} (hk : ∀ x, (cells x).length = k) (h : Own W base e k cells (.slice A (n + 1) c) (xs ++ [x])) : Own W base e k cells (.slice A n c) xs := by
  have hn : n = xs.length := by
    obtain ⟨A', c', hv, _⟩ := h.rd
    injection hv with _ h2 _
    simp at h2
    exact h2
  subst hn
  have h' := h
  obtain ⟨_, hn | ⟨g, cap, cur, hv, _⟩⟩ := h'
  · cases hn.1
  · injection hv with hA
    subst hA
    unfold Own at h ⊢
    rw [List.length_append, List.flatMap_append] at h
    exact ownsRow_pop (flat_len hk xs) h
/-- The last number and the last use go. -/
theorem OrdQ.pop {x : Int} {y : Us} {A B : Option Addr} {n m c d : Nat} (h : OrdQ w0 p (ns ++ [x]) (us ++ [y]) os t (.slice A (n + 1) c) (.slice B (m + 1) d) vO W) (hc : OrdC w0 p) :
    OrdQ w0 p ns us os t (.slice A n c) (.slice B m d) vO ((W.setCell ⟨p.bn, 0, none⟩ (.slice A n c)).setCell ⟨p.bU, 0, none⟩ (.slice B m d)) := by
  have eA : (Value.slice A n c).ownBlock = (Value.slice A (n + 1) c).ownBlock := by cases A <;> rfl
  have eB : (Value.slice B m d).ownBlock = (Value.slice B (m + 1) d).ownBlock := by cases B <;> rfl
  have hk : Kept (fun b => ¬ b = p.bn ∧ ¬ b = p.bU) W ((W.setCell ⟨p.bn, 0, none⟩ (.slice A n c)).setCell ⟨p.bU, 0, none⟩ (.slice B m d)) := ((Kept.setCell W ⟨p.bn, 0, none⟩ _).mono fun b _ hb => hb.1).trans ((Kept.setCell _ ⟨p.bU, 0, none⟩ _).mono fun b _ hb => hb.2)
  obtain ⟨l0, l1, l2, l3, l4, l5, l6, l7, l8, l9, _, _, _, _, _, _, _, _, _⟩ := hc
  have hs := h.sz
  refine ⟨h.net.kept hk (by omega), h.flw.kept hk (by omega), h.fb.kept hk (by omega), h.mb.kept hk (by omega), h.nx.kept hk (by omega), h.tot.kept hk (by omega), ?_, ?_, h.hO.kept hk (by omega),
    own_pop icell_len (h.oN.keptB hk (fun g hg2 => by have := (own_bl h.oN g hg2).1; omega)), own_pop Us.len (h.oU.keptB hk (fun g hg2 => by have := (own_bl h.oU g hg2).1; omega)), h.oO.keptB hk (fun g hg2 => by have := (own_bl h.oO g hg2).1; omega), fun g hg2 => ?_, fun g hg2 => ?_,
    by rw [World.frozen?_setCell, World.frozen?_setCell]; exact h.fn, by rw [World.frozen?_setCell, World.frozen?_setCell]; exact h.fu,
    (hk.frozen (p := ⟨p.bT, 0, none⟩) (by show ¬ p.bT = _ ∧ ¬ p.bT = _; omega) (by show p.bT < _; omega)).trans h.ft, (hk.frozen (p := ⟨p.bO, 0, none⟩) (by show ¬ p.bO = _ ∧ ¬ p.bO = _; omega) (by show p.bO < _; omega)).trans h.fo,
    h.bl.trans (hk.below (fun b hb => by omega) h.bl.size), Nat.le_trans h.sz hk.size⟩
  · simpa using (h.hN.set (j := 0) (.slice A n c) (by simp)).other (r := p.bU) 0 (.slice B m d) (by omega)
  · simpa using (h.hU.other (r := p.bn) 0 (.slice A n c) (by omega)).set (j := 0) (.slice B m d) (by simp)
  · rw [eA] at hg2; rw [eB]; exact h.s1 g hg2
  · rw [eB] at hg2; exact h.s2 g hg2
/-- A better order. -/
theorem OrdQ.best {wv : World} {u : Value} {os' : List Int} {t' : Int} (h : OrdQ w0 p ns us os t vN vU vO W) (hc : OrdC w0 p) (hb : Below W.heap.size W wv) (hown : Own wv W.heap.size 3 1 icell u os') :
    OrdQ w0 p ns us os' t' vN vU u ((wv.setCell ⟨p.bO, 0, none⟩ u).setCell ⟨p.bT, 0, none⟩ (.int .i64 t')) := by
  have hk : Kept (fun b => ¬ b = p.bO ∧ ¬ b = p.bT) W ((wv.setCell ⟨p.bO, 0, none⟩ u).setCell ⟨p.bT, 0, none⟩ (.int .i64 t')) := (Kept.all _ hb).trans (((Kept.setCell wv ⟨p.bO, 0, none⟩ _).mono fun b _ hb => hb.1).trans ((Kept.setCell _ ⟨p.bT, 0, none⟩ _).mono fun b _ hb => hb.2))
  have h2 := h.below hc hb
  obtain ⟨l0, l1, l2, l3, l4, l5, l6, l7, l8, l9, _, _, _, _, _, _, _, _, _⟩ := hc
  have hs := h.sz
  have hge := own_bl hown
  refine ⟨h.net.kept hk (by omega), h.flw.kept hk (by omega), h.fb.kept hk (by omega), h.mb.kept hk (by omega), h.nx.kept hk (by omega), ?_, h.hN.kept hk (by omega), h.hU.kept hk (by omega), ?_,
    h.oN.keptB hk (fun g hg2 => by have := (own_bl h.oN g hg2).1; omega), h.oU.keptB hk (fun g hg2 => by have := (own_bl h.oU g hg2).1; omega), ((hown.setCell (fun e => by have := (hge _ e).1; simp at this; omega) _).setCell (fun e => by have := (hge _ e).1; simp at this; omega) _).mono hs, fun g hg2 => ⟨(h.s1 g hg2).1, fun e => ?_⟩, fun g hg2 e => ?_,
    (hk.frozen (p := ⟨p.bn, 0, none⟩) (by show ¬ p.bn = _ ∧ ¬ p.bn = _; omega) (by show p.bn < _; omega)).trans h.fn, (hk.frozen (p := ⟨p.bU, 0, none⟩) (by show ¬ p.bU = _ ∧ ¬ p.bU = _; omega) (by show p.bU < _; omega)).trans h.fu,
    by rw [World.frozen?_setCell, World.frozen?_setCell]; exact h2.ft, by rw [World.frozen?_setCell, World.frozen?_setCell]; exact h2.fo,
    h.bl.trans (hk.below (fun b hb => by omega) h.bl.size), Nat.le_trans h.sz hk.size⟩
  · simpa using (h2.tot.other (r := p.bO) 0 u (by omega)).set (j := 0) (.int .i64 t') (by simp)
  · simpa using (h2.hO.set (j := 0) u (by simp)).other (r := p.bT) 0 (.int .i64 t') (by omega)
  · have := (own_bl h.oN g hg2).2; have := (hge g e).1; omega
  · have := (own_bl h.oU g hg2).2; have := (hge g e).1; omega
end
end Go.Proofs.Ytgklcilpohkpkaa
