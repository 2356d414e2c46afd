/- Three twins of a net, in boxes of the walk's own: what is held of them. -/
import Derived.Test.YthlnbgjlkliopaaK1
import Derived.Test.YthlnbgjlkliopaaTw
set_option linter.unusedVariables false
set_option linter.unusedSimpArgs false
namespace Go.Proofs.Ythlnbgjlkliopaa
open Go.RowKit Go.Shelf
structure MQ (V : World) (b13 b14 b15 : Nat) (vd vw vk xd xw xk : Value) (A13 A14 A15 : List Value) (fs : List Int) (cs D K : List Ca) (W : World) : Prop where
  bl : Below V.heap.size V W
  od : Own W V.heap.size 38 5 Ca.cells vd D
  ow : Own W V.heap.size 38 5 Ca.cells vw cs
  ok : Own W V.heap.size 38 5 Ca.cells vk K
  fd : Own W V.heap.size 3 1 icell xd fs
  fw : Own W V.heap.size 3 1 icell xw fs
  fk : Own W V.heap.size 3 1 icell xk fs
  a13 : At W b13 A13
  a14 : At W b14 A14
  a15 : At W b15 A15
  f13 : ∀ j : Nat, W.frozen? ⟨b13, j, none⟩ = false
  f14 : ∀ j : Nat, W.frozen? ⟨b14, j, none⟩ = false
  f15 : ∀ j : Nat, W.frozen? ⟨b15, j, none⟩ = false
/-- A store into block g leaves all but g. -/
structure Off (g : Nat) (V : World) (bs : List Nat) (vs : List Value) : Prop where
  le : V.heap.size ≤ g
  bs : ∀ b ∈ bs, b ≠ g
  vs : ∀ v ∈ vs, v.ownBlock ≠ some g
section
variable {V W W' : World} {b13 b14 b15 : Nat} {vd vw vk xd xw xk : Value} {A13 A14 A15 : List Value} {fs : List Int} {cs D K : List Ca}
theorem MQ.bel (h : MQ V b13 b14 b15 vd vw vk xd xw xk A13 A14 A15 fs cs D K W) (hb : Below W.heap.size W W') : MQ V b13 b14 b15 vd vw vk xd xw xk A13 A14 A15 fs cs D K W' :=
  ⟨h.bl.trans (hb.mono h.bl.size), h.od.below hb, h.ow.below hb, h.ok.below hb, h.fd.below hb, h.fw.below hb, h.fk.below hb, h.a13.below hb, h.a14.below hb, h.a15.below hb, frz_below h.f13 h.a13.1 hb, frz_below h.f14 h.a14.1 hb, frz_below h.f15 h.a15.1 hb⟩
theorem below_keptG {B g : Nat} (h : Below B V W) (hk : Kept (fun b => b ≠ g) W W') (hg : B ≤ g) (hB : B ≤ W.heap.size) : Below B V W' := h.trans (hk.below (fun b hb => by omega) hB)
theorem own_keptG {α : Type} {cells : α → List Value} {base g : Nat} {e : TypeId} {k : Nat} {v : Value} {xs : List α} (h : Own W base e k cells v xs) (hk : Kept (fun b => b ≠ g) W W') (hg : v.ownBlock ≠ some g) : Own W' base e k cells v xs := h.keptB hk fun x hx e => hg (by rw [hx, e])
theorem frz_keptG {b g : Nat} {A : List Value} (h : ∀ j : Nat, W.frozen? ⟨b, j, none⟩ = false) (ha : At W b A) (hk : Kept (fun b => b ≠ g) W W') (hg : b ≠ g) : ∀ j : Nat, W'.frozen? ⟨b, j, none⟩ = false := fun j => (hk.frozen (p := ⟨b, j, none⟩) hg ha.1).trans (h j)
/-- All but the first canals' row. -/
theorem MQ.turnD (h : MQ V b13 b14 b15 vd vw vk xd xw xk A13 A14 A15 fs cs D K W) {g : Nat} (hk : Kept (fun b => b ≠ g) W W') (ho : Off g V [b13, b14, b15] [vw, vk, xd, xw, xk]) {D' : List Ca} (hd : Own W' V.heap.size 38 5 Ca.cells vd D') : MQ V b13 b14 b15 vd vw vk xd xw xk A13 A14 A15 fs cs D' K W' :=
  ⟨below_keptG h.bl hk ho.le h.bl.size, hd, own_keptG h.ow hk (ho.vs _ (by simp)), own_keptG h.ok hk (ho.vs _ (by simp)), own_keptG h.fd hk (ho.vs _ (by simp)), own_keptG h.fw hk (ho.vs _ (by simp)), own_keptG h.fk hk (ho.vs _ (by simp)), h.a13.kept hk (ho.bs _ (by simp)), h.a14.kept hk (ho.bs _ (by simp)), h.a15.kept hk (ho.bs _ (by simp)),
    frz_keptG h.f13 h.a13 hk (ho.bs _ (by simp)), frz_keptG h.f14 h.a14 hk (ho.bs _ (by simp)), frz_keptG h.f15 h.a15 hk (ho.bs _ (by simp))⟩
theorem MQ.turnK (h : MQ V b13 b14 b15 vd vw vk xd xw xk A13 A14 A15 fs cs D K W) {g : Nat} (hk : Kept (fun b => b ≠ g) W W') (ho : Off g V [b13, b14, b15] [vd, vw, xd, xw, xk]) {K' : List Ca} (hd : Own W' V.heap.size 38 5 Ca.cells vk K') : MQ V b13 b14 b15 vd vw vk xd xw xk A13 A14 A15 fs cs D K' W' :=
  ⟨below_keptG h.bl hk ho.le h.bl.size, own_keptG h.od hk (ho.vs _ (by simp)), own_keptG h.ow hk (ho.vs _ (by simp)), hd, own_keptG h.fd hk (ho.vs _ (by simp)), own_keptG h.fw hk (ho.vs _ (by simp)), own_keptG h.fk hk (ho.vs _ (by simp)), h.a13.kept hk (ho.bs _ (by simp)), h.a14.kept hk (ho.bs _ (by simp)), h.a15.kept hk (ho.bs _ (by simp)),
    frz_keptG h.f13 h.a13 hk (ho.bs _ (by simp)), frz_keptG h.f14 h.a14 hk (ho.bs _ (by simp)), frz_keptG h.f15 h.a15 hk (ho.bs _ (by simp))⟩
/-- All but one box. -/
theorem MQ.turn13 (h : MQ V b13 b14 b15 vd vw vk xd xw xk A13 A14 A15 fs cs D K W) (hk : Kept (fun b => b ≠ b13) W W') (ho : Off b13 V [b14, b15] [vd, vw, vk, xd, xw, xk]) {A' : List Value} (ha : At W' b13 A') (hf : ∀ j : Nat, W'.frozen? ⟨b13, j, none⟩ = false) : MQ V b13 b14 b15 vd vw vk xd xw xk A' A14 A15 fs cs D K W' :=
  ⟨below_keptG h.bl hk ho.le h.bl.size, own_keptG h.od hk (ho.vs _ (by simp)), own_keptG h.ow hk (ho.vs _ (by simp)), own_keptG h.ok hk (ho.vs _ (by simp)), own_keptG h.fd hk (ho.vs _ (by simp)), own_keptG h.fw hk (ho.vs _ (by simp)), own_keptG h.fk hk (ho.vs _ (by simp)), ha, h.a14.kept hk (ho.bs _ (by simp)), h.a15.kept hk (ho.bs _ (by simp)),
    hf, frz_keptG h.f14 h.a14 hk (ho.bs _ (by simp)), frz_keptG h.f15 h.a15 hk (ho.bs _ (by simp))⟩
theorem MQ.turn14 (h : MQ V b13 b14 b15 vd vw vk xd xw xk A13 A14 A15 fs cs D K W) (hk : Kept (fun b => b ≠ b14) W W') (ho : Off b14 V [b13, b15] [vd, vw, vk, xd, xw, xk]) {A' : List Value} (ha : At W' b14 A') (hf : ∀ j : Nat, W'.frozen? ⟨b14, j, none⟩ = false) : MQ V b13 b14 b15 vd vw vk xd xw xk A13 A' A15 fs cs D K W' :=
  ⟨below_keptG h.bl hk ho.le h.bl.size, own_keptG h.od hk (ho.vs _ (by simp)), own_keptG h.ow hk (ho.vs _ (by simp)), own_keptG h.ok hk (ho.vs _ (by simp)), own_keptG h.fd hk (ho.vs _ (by simp)), own_keptG h.fw hk (ho.vs _ (by simp)), own_keptG h.fk hk (ho.vs _ (by simp)), h.a13.kept hk (ho.bs _ (by simp)), ha, h.a15.kept hk (ho.bs _ (by simp)),
    frz_keptG h.f13 h.a13 hk (ho.bs _ (by simp)), hf, frz_keptG h.f15 h.a15 hk (ho.bs _ (by simp))⟩
theorem MQ.turn15 (h : MQ V b13 b14 b15 vd vw vk xd xw xk A13 A14 A15 fs cs D K W) (hk : Kept (fun b => b ≠ b15) W W') (ho : Off b15 V [b13, b14] [vd, vw, vk, xd, xw, xk]) {A' : List Value} (ha : At W' b15 A') (hf : ∀ j : Nat, W'.frozen? ⟨b15, j, none⟩ = false) : MQ V b13 b14 b15 vd vw vk xd xw xk A13 A14 A' fs cs D K W' :=
  ⟨below_keptG h.bl hk ho.le h.bl.size, own_keptG h.od hk (ho.vs _ (by simp)), own_keptG h.ow hk (ho.vs _ (by simp)), own_keptG h.ok hk (ho.vs _ (by simp)), own_keptG h.fd hk (ho.vs _ (by simp)), own_keptG h.fw hk (ho.vs _ (by simp)), own_keptG h.fk hk (ho.vs _ (by simp)), h.a13.kept hk (ho.bs _ (by simp)), h.a14.kept hk (ho.bs _ (by simp)), ha,
    frz_keptG h.f13 h.a13 hk (ho.bs _ (by simp)), frz_keptG h.f14 h.a14 hk (ho.bs _ (by simp)), hf⟩
end
/-- A box of four cells, stored anew. -/
theorem box4 {W : World} {b : Nat} {x0 x1 x2 x3 : Value} (h : At W b [x0, x1, x2, x3]) (hf : ∀ j : Nat, W.frozen? ⟨b, j, none⟩ = false) (y0 y1 y2 y3 : Value) :
    ∃ W', Hid ((((W.setCell ⟨b, 0, none⟩ y0).setCell ⟨b, 1, none⟩ y1).setCell ⟨b, 2, none⟩ y2).setCell ⟨b, 3, none⟩ y3 = W') ∧ At W' b [y0, y1, y2, y3] ∧ (∀ j : Nat, W'.frozen? ⟨b, j, none⟩ = false) ∧ Kept (fun x => x ≠ b) W W' := by
  refine ⟨_, hide rfl, ?_, fun j => by simp only [World.frozen?_setCell]; exact hf j, ?_⟩
  · have h1 := (((h.set (j := 0) y0 (by simp)).set (j := 1) y1 (by simp)).set (j := 2) y2 (by simp)).set (j := 3) y3 (by simp)
    simpa using h1
  · exact (((Kept.setCell _ ⟨b, 0, none⟩ _).trans (Kept.setCell _ ⟨b, 1, none⟩ _)).trans (Kept.setCell _ ⟨b, 2, none⟩ _)).trans (Kept.setCell _ ⟨b, 3, none⟩ _)
/-! ### Canals that turn -/
def denseOf (a b : Ca) : Prop := b.frm = a.frm ∧ b.fill = a.fill ∧ (0 ≤ b.seep.lo ∧ b.seep.lo ≤ b.seep.hi) ∧ b.seep.hi ≤ a.seep.hi ∧ b.seep.lo ≤ a.seep.lo
def knownOf (a b : Ca) : Prop := b.frm = a.frm ∧ (a.seep.lo ≤ b.seep.lo ∧ b.seep.lo ≤ b.seep.hi) ∧ b.seep.hi = a.seep.hi ∧ b.fill.lo = a.fill.lo ∧ (a.fill.lo ≤ b.fill.hi ∧ b.fill.hi ≤ a.fill.hi)
def caRel (R : Ca → Ca → Prop) (A B : List Ca) : Prop := A.length = B.length ∧ ∀ (k : Nat) (a b : Ca), A[k]? = some a → B[k]? = some b → R a b
theorem caRel.set {R : Ca → Ca → Prop} {A B : List Ca} (h : caRel R A B) {i : Nat} {a x : Ca} (ha : A[i]? = some a) (hx : R a x) : caRel R A (B.set i x) := by
  refine ⟨by rw [List.length_set]; exact h.1, fun k c d hc hd => ?_⟩
  rw [List.getElem?_set] at hd
  by_cases e : i = k
  · subst e
    rw [if_pos rfl, if_pos (by rw [← h.1]; exact (List.getElem?_eq_some_iff.1 ha).1)] at hd
    injection hd with hd
    subst hd
    rw [ha] at hc
    injection hc with hc
    subst hc
    exact hx
  · rw [if_neg e] at hd
    exact h.2 k c d hc hd
theorem caOk_parts {i : Nat} {c : Ca} (h : caOk i c = true) : (0 ≤ c.frm ∧ c.frm ≤ i) ∧ (0 ≤ c.seep.lo ∧ c.seep.lo ≤ c.seep.hi ∧ c.seep.hi ≤ 1000) ∧ (0 ≤ c.fill.lo ∧ c.fill.lo ≤ c.fill.hi ∧ c.fill.hi ≤ 10000000) := by
  simp only [caOk, inB, Sp.ok, Bool.and_eq_true, decide_eq_true_eq] at h
  obtain ⟨h0, ⟨⟨h1, h2⟩, h3⟩, ⟨h4, h5⟩, h6⟩ := h
  exact ⟨h0, ⟨h1, h2, h3⟩, h4, h5, h6⟩
theorem caOk_mk {i : Nat} {c : Ca} (h0 : 0 ≤ c.frm ∧ c.frm ≤ i) (h1 : 0 ≤ c.seep.lo ∧ c.seep.lo ≤ c.seep.hi ∧ c.seep.hi ≤ 1000) (h2 : 0 ≤ c.fill.lo ∧ c.fill.lo ≤ c.fill.hi ∧ c.fill.hi ≤ 10000000) : caOk i c = true := by
  simp only [caOk, inB, Sp.ok, Bool.and_eq_true, decide_eq_true_eq]
  exact ⟨h0, ⟨⟨h1.1, h1.2.1⟩, h1.2.2⟩, ⟨h2.1, h2.2.1⟩, h2.2.2⟩
theorem ca_ok {cs : List Ca} {fs : List Int} {dry days : Int} (hok : netOk cs fs dry days = true) {k : Nat} {c : Ca} (hc : cs[k]? = some c) : caOk k c = true := (by
  have h := (caAll_iff 0 cs).1 (netOk_parts hok).2.2.2.2.2.1 k c hc
  rwa [Nat.zero_add] at h)
theorem denseOf.refl {cs : List Ca} {fs : List Int} {dry days : Int} (hok : netOk cs fs dry days = true) : caRel denseOf cs cs := ⟨rfl, fun k a b ha hb => by
  rw [ha] at hb; injection hb with hb; subst hb
  obtain ⟨h0, h1, h2⟩ := caOk_parts (ca_ok hok ha)
  exact ⟨rfl, rfl, ⟨h1.1, h1.2.1⟩, Int.le_refl _, Int.le_refl _⟩⟩
theorem knownOf.refl {cs : List Ca} {fs : List Int} {dry days : Int} (hok : netOk cs fs dry days = true) : caRel knownOf cs cs := ⟨rfl, fun k a b ha hb => by
  rw [ha] at hb; injection hb with hb; subst hb
  obtain ⟨h0, h1, h2⟩ := caOk_parts (ca_ok hok ha)
  exact ⟨rfl, ⟨Int.le_refl _, h1.2.1⟩, rfl, rfl, h2.2.1, Int.le_refl _⟩⟩
theorem netOk_ca {A B : List Ca} {fs : List Int} {dry days : Int} (hok : netOk A fs dry days = true) (hl : A.length = B.length) (h : ∀ (k : Nat) (b : Ca), B[k]? = some b → caOk k b = true) : netOk B fs dry days = true := by
  have hB : caAll 0 B = true := (caAll_iff 0 B).2 fun k b hb => by rw [Nat.zero_add]; exact h k b hb
  unfold netOk netPre at hok ⊢
  simp only [Bool.and_eq_true] at hok ⊢
  rw [← hl]
  exact ⟨⟨hok.1.1, hB⟩, hok.2⟩
theorem caRel.got {R : Ca → Ca → Prop} {A B : List Ca} (h : caRel R A B) {k : Nat} {b : Ca} (hb : B[k]? = some b) : ∃ a, A[k]? = some a ∧ R a b := by
  have hk : k < A.length := by rw [h.1]; exact (List.getElem?_eq_some_iff.1 hb).1
  have ha : A[k]? = some A[k] := List.getElem?_eq_getElem hk
  exact ⟨_, ha, h.2 _ _ _ ha hb⟩
theorem dense_net {A B : List Ca} {fs : List Int} {dry days : Int} (hok : netOk A fs dry days = true) (h : caRel denseOf A B) : netOk B fs dry days = true :=
  netOk_ca hok h.1 fun k b hb => by
    obtain ⟨a, ha, e1, e2, e3, e4, e5⟩ := h.got hb
    obtain ⟨h0, h1, h2⟩ := caOk_parts (ca_ok hok ha)
    exact caOk_mk (by rw [e1]; exact h0) ⟨e3.1, e3.2, by omega⟩ (by rw [e2]; exact h2)
theorem known_net {A B : List Ca} {fs : List Int} {dry days : Int} (hok : netOk A fs dry days = true) (h : caRel knownOf A B) : netOk B fs dry days = true :=
  netOk_ca hok h.1 fun k b hb => by
    obtain ⟨a, ha, e1, e2, e3, e4, e5⟩ := h.got hb
    obtain ⟨h0, h1, h2⟩ := caOk_parts (ca_ok hok ha)
    exact caOk_mk (by rw [e1]; exact h0) ⟨by omega, e2.2, by omega⟩ ⟨by omega, by omega, by omega⟩
theorem own_at {α : Type} {cells : α → List Value} {W : World} {base : Nat} {e : TypeId} {k n c : Nat} {A : Option Addr} {xs : List α} (h : Own W base e k cells (.slice A n c) xs) (hn : 0 < n) : ∃ g, A = some ⟨g, 0, none⟩ := by
  rcases h.2 with ⟨hv, _⟩ | ⟨g, cap, cur, hv, _⟩
  · injection hv with h1 h2 h3; omega
  · injection hv with h1 h2 h3; exact ⟨g, h1⟩
section
variable {W : World} {base g n c i : Nat} {e : TypeId} {D : List Ca} {x : Ca}
theorem own_cells (h : Own W base e 5 Ca.cells (.slice (some ⟨g, 0, none⟩) n c) D) (hx : D[i]? = some x) (j : Nat) (v : Value) (hv : (Ca.cells x)[j]? = some v) : W.cell? ⟨g, i * 5 + j, none⟩ = some v := by
  obtain ⟨A, c', hA, hr⟩ := h.rd
  injection hA with h1 h2 h3
  subst h1
  have hi : i < D.length := (List.getElem?_eq_some_iff.1 hx).1
  obtain ⟨b, off, e1, _, hc⟩ := hr (by omega)
  injection e1 with e1
  injection e1 with e1 e2
  subst e1 e2
  have hj : j < 5 := by have := (List.getElem?_eq_some_iff.1 hv).1; rw [Ca.len] at this; exact this
  have h5 := flat_get Ca.len hx (j := j) hj
  rw [hv] at h5
  have := hc _ _ h5
  rwa [Nat.zero_add] at this
theorem own_frzC (h : Own W base e 5 Ca.cells (.slice (some ⟨g, 0, none⟩) n c) D) (j : Nat) : W.frozen? ⟨g, j, none⟩ = false := by
  obtain ⟨A, c', hA, hr⟩ := h.rd
  injection hA with h1 h2 h3
  subst h2
  exact World.ownsRow.frozenAt h j
theorem own_seep_c (h : Own W base e 5 Ca.cells (.slice (some ⟨g, 0, none⟩) n c) D) (hx : D[i]? = some x) : W.cell? ⟨g, i * 5 + 1, none⟩ = some (.int .i64 x.seep.lo) ∧ W.cell? ⟨g, i * 5 + 2, none⟩ = some (.int .i64 x.seep.hi) := ⟨own_cells h hx 1 _ rfl, own_cells h hx 2 _ rfl⟩
theorem own_fill_c (h : Own W base e 5 Ca.cells (.slice (some ⟨g, 0, none⟩) n c) D) (hx : D[i]? = some x) : W.cell? ⟨g, i * 5 + 3, none⟩ = some (.int .i64 x.fill.lo) ∧ W.cell? ⟨g, i * 5 + 4, none⟩ = some (.int .i64 x.fill.hi) := ⟨own_cells h hx 3 _ rfl, own_cells h hx 4 _ rfl⟩
theorem own_seep (h : Own W base e 5 Ca.cells (.slice (some ⟨g, 0, none⟩) n c) D) (hx : D[i]? = some x) (hn : n = D.length) (p q : Int) :
    W.cell? ⟨g, i * 5 + 1, none⟩ = some (.int .i64 x.seep.lo) ∧ W.cell? ⟨g, i * 5 + 2, none⟩ = some (.int .i64 x.seep.hi) ∧ W.frozen? ⟨g, i * 5 + 1, none⟩ = false ∧ W.frozen? ⟨g, i * 5 + 2, none⟩ = false ∧
    Own ((W.setCell ⟨g, i * 5 + 1, none⟩ (.int .i64 p)).setCell ⟨g, i * 5 + 2, none⟩ (.int .i64 q)) base e 5 Ca.cells (.slice (some ⟨g, 0, none⟩) n c) (D.set i ⟨x.frm, ⟨p, q⟩, x.fill⟩) ∧
    Kept (fun b => b ≠ g) W ((W.setCell ⟨g, i * 5 + 1, none⟩ (.int .i64 p)).setCell ⟨g, i * 5 + 2, none⟩ (.int .i64 q)) := by
  have hi : i < D.length := (List.getElem?_eq_some_iff.1 hx).1
  obtain ⟨o1, _, _⟩ := h.put_ Ca.len (i := i) (j := 1) (x' := ⟨x.frm, ⟨p, x.seep.hi⟩, x.fill⟩) (u := .int .i64 p) hx (by omega) rfl hn
  obtain ⟨o2, _, _⟩ := o1.put_ Ca.len (i := i) (j := 2) (x := ⟨x.frm, ⟨p, x.seep.hi⟩, x.fill⟩) (x' := ⟨x.frm, ⟨p, q⟩, x.fill⟩) (u := .int .i64 q) (by rw [List.getElem?_set_self hi]) (by omega) rfl (by rw [List.length_set]; exact hn)
  rw [List.set_set] at o2
  exact ⟨(own_seep_c h hx).1, (own_seep_c h hx).2, own_frzC h _, own_frzC h _, o2, (Kept.setCell _ ⟨g, i * 5 + 1, none⟩ _).trans (Kept.setCell _ ⟨g, i * 5 + 2, none⟩ _)⟩
theorem own_seep_lo (h : Own W base e 5 Ca.cells (.slice (some ⟨g, 0, none⟩) n c) D) (hx : D[i]? = some x) (hn : n = D.length) (p : Int) :
    Own (W.setCell ⟨g, i * 5 + 1, none⟩ (.int .i64 p)) base e 5 Ca.cells (.slice (some ⟨g, 0, none⟩) n c) (D.set i ⟨x.frm, ⟨p, x.seep.hi⟩, x.fill⟩) :=
  (h.put_ Ca.len (i := i) (j := 1) (x' := ⟨x.frm, ⟨p, x.seep.hi⟩, x.fill⟩) (u := .int .i64 p) hx (by omega) rfl hn).1
theorem own_fill_hi (h : Own W base e 5 Ca.cells (.slice (some ⟨g, 0, none⟩) n c) D) (hx : D[i]? = some x) (hn : n = D.length) (p : Int) :
    Own (W.setCell ⟨g, i * 5 + 4, none⟩ (.int .i64 p)) base e 5 Ca.cells (.slice (some ⟨g, 0, none⟩) n c) (D.set i ⟨x.frm, x.seep, ⟨x.fill.lo, p⟩⟩) :=
  (h.put_ Ca.len (i := i) (j := 4) (x' := ⟨x.frm, x.seep, ⟨x.fill.lo, p⟩⟩) (u := .int .i64 p) hx (by omega) rfl hn).1
end
theorem own_rd {α : Type} {cells : α → List Value} {W : World} {base : Nat} {e : TypeId} {k n c : Nat} {A : Option Addr} {xs : List α} (h : Own W base e k cells (.slice A n c) xs) : Rd W W.heap.size cells A xs := by
  obtain ⟨A', c', hv, hr⟩ := h.rd
  injection hv with h1 h2 h3
  subst h1
  exact hr
section
variable {W : World} {base g n c i : Nat} {e : TypeId} {D : List Us} {x : Us}
theorem own_use_c (h : Own W base e 3 Us.cells (.slice (some ⟨g, 0, none⟩) n c) D) (hx : D[i]? = some x) : W.cell? ⟨g, i * 3 + 1 + 1, none⟩ = some (.int .i64 x.to) := by
  obtain ⟨b, off, f, s, t, hA, _, hxi, _, _, c2⟩ := (own_rd h).us (i := i) (List.getElem?_eq_some_iff.1 hx).1
  injection hA with hA
  injection hA with e1 e2
  subst e1 e2
  rw [hx] at hxi
  injection hxi with hxi
  subst hxi
  rw [Nat.zero_add] at c2
  exact c2
theorem own_use (h : Own W base e 3 Us.cells (.slice (some ⟨g, 0, none⟩) n c) D) (hx : D[i]? = some x) (hn : n = D.length) (q : Int) :
    W.cell? ⟨g, i * 3 + 1 + 1, none⟩ = some (.int .i64 x.to) ∧ W.frozen? ⟨g, i * 3 + 1 + 1, none⟩ = false ∧ (Own (W.setCell ⟨g, i * 3 + 1 + 1, none⟩ (.int .i64 q)) base e 3 Us.cells (.slice (some ⟨g, 0, none⟩) n c) (D.set i ⟨x.field, x.frm, q⟩) ∧ Kept (fun b => b ≠ g) W (W.setCell ⟨g, i * 3 + 1 + 1, none⟩ (.int .i64 q))) := by
  obtain ⟨o1, _, y⟩ := h.put_ Us.len (i := i) (j := 2) (x' := ⟨x.field, x.frm, q⟩) (u := .int .i64 q) hx (by omega) rfl hn
  exact ⟨own_use_c h hx, y, o1, Kept.setCell _ ⟨g, i * 3 + 1 + 1, none⟩ _⟩
end
theorem usLe_last {us : List Us} {m : Nat} {f s t q : Int} (hx : us[m]? = some ⟨f, s, t⟩) (hq : t ≤ q) : usLe us (us.set m ⟨f, s, q⟩) := by
  refine ⟨by rw [List.length_set], fun k x y h1 h2 => ?_⟩
  rw [List.getElem?_set] at h2
  by_cases e : m = k
  · subst e
    rw [if_pos rfl, if_pos (List.getElem?_eq_some_iff.1 hx).1] at h2
    injection h2 with h2
    subst h2
    rw [hx] at h1
    injection h1 with h1
    subst h1
    exact ⟨rfl, rfl, hq⟩
  · rw [if_neg e, h1] at h2
    injection h2 with h2
    subst h2
    exact ⟨rfl, rfl, Int.le_refl _⟩
theorem uses_last {nf days : Int} {us : List Us} {m : Nat} {f s t q : Int} (huo : usesOk nf days us = true) (hm : us.length = m + 1) (hx : us[m]? = some ⟨f, s, t⟩) (hq : t ≤ q) (hc : q ≤ days * 1440) : usesOk nf days (us.set m ⟨f, s, q⟩) = true := by
  have hus : us = us.take m ++ [⟨f, s, t⟩] := by rw [← take_snoc hx, List.take_of_length_le (by omega)]
  have hl : (us.take m).length = m := by simp; omega
  have hset : us.set m ⟨f, s, q⟩ = us.take m ++ [⟨f, s, q⟩] := by
    conv => lhs; rw [hus]
    rw [List.set_append_right _ _ (by omega), hl, Nat.sub_self]
    rfl
  rw [hset]
  unfold usesOk at huo ⊢
  rw [hus] at huo
  simp only [Bool.and_eq_true, decide_eq_true_eq, usAll_snoc] at huo ⊢
  obtain ⟨⟨h1, h2⟩, h3⟩ := huo
  refine ⟨⟨h1, ?_⟩, by simpa using h3⟩
  unfold usOk at h2 ⊢
  simp only [Bool.and_eq_true, decide_eq_true_eq, Bool.not_eq_true', Bool.or_eq_false_iff, decide_eq_false_iff_not] at h2 ⊢
  obtain ⟨g1, g2, g3, g4⟩ := h2
  exact ⟨g1, g2, by omega, by omega⟩
theorem netOk_dry2 {cs : List Ca} {fs : List Int} {dry days : Int} (hok : netOk cs fs dry days = true) {d : Int} (h0 : 0 ≤ d) (h1 : d ≤ 23040) : netOk cs fs d days = true := by
  simp only [netOk, netPre, inB, Bool.and_eq_true, decide_eq_true_eq] at hok ⊢
  obtain ⟨⟨⟨⟨⟨⟨h, h2⟩, _⟩, h4⟩, h5⟩, h6⟩, h7⟩ := hok
  exact ⟨⟨⟨⟨⟨⟨h, h2⟩, h0, h1⟩, h4⟩, h5⟩, h6⟩, h7⟩
theorem pathW_len2 (cs : List Ca) (dr : List Int) : ∀ (p : List Int) (lost : List Sp) (v : Sp), (pathW cs dr p lost v).1.length = lost.length
  | [], _, _ => rfl
  | c :: p, lost, v => by
    have h1 : pathW cs dr (c :: p) lost v = pathW cs dr p (canalW cs dr (lost, v) c).1 (canalW cs dr (lost, v) c).2 := rfl
    rw [h1, pathW_len2 cs dr p]
    exact putS_len _ _ _
theorem waters_len2 (cs : List Ca) (fs : List Int) (dry cyc a b : Int) (us : List Us) : ∀ k, (watersK cs fs dry cyc a b us k).2.length = cs.length := by
  intro k
  induction k with
  | zero => simp [watersK]
  | succ k ih =>
    rw [watersK_succ]
    unfold useW
    cases us[k]? with
    | none => exact ih
    | some u => simp only; rw [pathW_len2]; exact ih
theorem watersS_ok {cs : List Ca} {fs : List Int} {dry days a b : Int} {us : List Us} (hok : netOk cs fs dry days = true) (huo : usesOk fs.length days us = true) (hs : Sp.ok 0 13000000 ⟨a, b⟩ = true) : watersS cs fs dry days a b us = (watersK cs fs dry (days * 1440) a b us us.length, 0) := by
  unfold watersS
  rw [if_pos hok, if_pos hs, if_pos huo]
theorem lo_self {cs : List Ca} {fs : List Int} {dry days : Int} (hok : netOk cs fs dry days = true) : caLo cs cs := ⟨rfl, fun k a b ha hb => by
  rw [ha] at hb; injection hb with hb; subst hb
  obtain ⟨h0, h1, h2⟩ := caOk_parts (ca_ok hok ha)
  exact ⟨⟨Int.le_refl _, h1.2.2⟩, Int.le_refl _, by omega⟩⟩
theorem hi_self {cs : List Ca} {fs : List Int} {dry days : Int} (hok : netOk cs fs dry days = true) : caHi cs cs := ⟨rfl, fun k a b ha hb => by
  rw [ha] at hb; injection hb with hb; subst hb
  obtain ⟨h0, h1, h2⟩ := caOk_parts (ca_ok hok ha)
  exact ⟨⟨Int.le_refl _, by omega⟩, Int.le_refl _, h2.1⟩⟩
theorem frm_rel {R : Ca → Ca → Prop} {A B : List Ca} (h : caRel R A B) (hr : ∀ a b, R a b → b.frm = a.frm) : A.map (·.frm) = B.map (·.frm) := by
  apply List.ext_getElem?
  intro k
  rw [List.getElem?_map, List.getElem?_map]
  cases ha : A[k]? with
  | none =>
    have : B[k]? = none := by rw [List.getElem?_eq_none_iff] at ha ⊢; rw [← h.1]; exact ha
    rw [this]
  | some a =>
    obtain ⟨b, hb⟩ : ∃ b, B[k]? = some b := ⟨_, List.getElem?_eq_getElem (by rw [← h.1]; exact (List.getElem?_eq_some_iff.1 ha).1)⟩
    rw [hb]
    simp [hr _ _ (h.2 _ _ _ ha hb)]
theorem dense_lo {A B : List Ca} {fs : List Int} {dry days : Int} (hok : netOk A fs dry days = true) (h : caRel denseOf A B) : caLo A B ∧ caHi A B := ⟨⟨h.1, fun k a b ha hb => by
  obtain ⟨e1, e2, e3, e4, e5⟩ := h.2 _ _ _ ha hb
  obtain ⟨h0, h1, h2⟩ := caOk_parts (ca_ok hok ha)
  rw [e2]
  omega⟩, ⟨h.1, fun k a b ha hb => by
  obtain ⟨e1, e2, e3, e4, e5⟩ := h.2 _ _ _ ha hb
  obtain ⟨h0, h1, h2⟩ := caOk_parts (ca_ok hok ha)
  rw [e2]
  omega⟩⟩
theorem known_lo {A B : List Ca} {fs : List Int} {dry days : Int} (hok : netOk A fs dry days = true) (h : caRel knownOf A B) : caLo A B ∧ caHi B A := ⟨⟨h.1, fun k a b ha hb => by
  obtain ⟨e1, e2, e3, e4, e5⟩ := h.2 _ _ _ ha hb
  obtain ⟨h0, h1, h2⟩ := caOk_parts (ca_ok hok ha)
  omega⟩, ⟨h.1.symm, fun k b a hb ha => by
  obtain ⟨e1, e2, e3, e4, e5⟩ := h.2 _ _ _ ha hb
  obtain ⟨h0, h1, h2⟩ := caOk_parts (ca_ok hok ha)
  omega⟩⟩
/-- All that the law compares, field by field. -/
def moreAt (l a b c d x : Sp) : Prop := (l.lo ≤ a.lo ∧ l.hi ≤ a.hi) ∧ (l.lo ≤ b.lo ∧ l.hi ≤ b.hi) ∧ (l.lo ≤ c.lo ∧ l.hi ≤ c.hi) ∧ (l.lo ≤ d.lo ∧ l.hi ≤ d.hi) ∧ l.lo ≤ x.lo ∧ x.hi ≤ l.hi
theorem more_all {cs D K : List Ca} {fs : List Int} {dry days nf a b dm mo : Int} {us us2 : List Us} (hok : netOk cs fs dry days = true) (hok2 : netOk cs fs (dry + dm) days = true) (hD : caRel denseOf cs D) (hK : caRel knownOf cs K) (huo : usesOk nf days us = true) (huo2 : usesOk nf days us2 = true) (hu : usLe us us2)
    (ha : 0 ≤ a) (hb : 0 ≤ b) (hm : 0 ≤ mo) (hd : 0 ≤ dm) (k i : Nat) :
    moreAt (atS (watersK cs fs dry (days * 1440) a b us k).1 i) (atS (watersK D fs dry (days * 1440) a b us k).1 i) (atS (watersK cs fs (dry + dm) (days * 1440) a b us k).1 i) (atS (watersK cs fs dry (days * 1440) (a + mo) (b + mo) us k).1 i) (atS (watersK cs fs dry (days * 1440) a b us2 k).1 i) (atS (watersK K fs dry (days * 1440) a b us k).1 i) := by
  have fD := frm_rel hD (fun _ _ h => h.1)
  have fK := frm_rel hK (fun _ _ h => h.1)
  have nD := dense_net hok hD
  have nK := known_net hok hK
  have cD := dense_lo hok hD
  have cK := known_lo hok hK
  have ls := lo_self hok
  have hs := hi_self hok
  have ur := usLe.refl us
  exact ⟨⟨more_lo fD hok nD huo huo (Int.le_refl _) ur cD.1 ha (Int.le_refl _) k i, more_hi fD hok nD huo huo (Int.le_refl _) ur cD.2 hb (Int.le_refl _) k i⟩,
    ⟨more_lo rfl hok hok2 huo huo (by omega) ur ls ha (Int.le_refl _) k i, more_hi rfl hok hok2 huo huo (by omega) ur hs hb (Int.le_refl _) k i⟩,
    ⟨more_lo rfl hok hok huo huo (Int.le_refl _) ur ls ha (by omega) k i, more_hi rfl hok hok huo huo (Int.le_refl _) ur hs hb (by omega) k i⟩,
    ⟨more_lo rfl hok hok huo huo2 (Int.le_refl _) hu ls ha (Int.le_refl _) k i, more_hi rfl hok hok huo huo2 (Int.le_refl _) hu hs hb (Int.le_refl _) k i⟩,
    more_lo fK hok nK huo huo (Int.le_refl _) ur cK.1 ha (Int.le_refl _) k i, more_hi fK.symm nK hok huo huo (Int.le_refl _) ur cK.2 hb (Int.le_refl _) k i⟩
theorem run_min_int4 {P : Program} {w : World} (ts : Array TypeId) (t : TypeId) (k k1 k2 k3 : IntKind) (x y z u : Int) : (Builtin.min_ ts t #[.int k x, .int k1 y, .int k2 z, .int k3 u]).run P w = .ok (.int k (if u < (if z < (if y < x then y else x) then z else (if y < x then y else x)) then u else (if z < (if y < x then y else x) then z else (if y < x then y else x)))) w := by
  simp [Builtin.min_, Builtin.min2]
theorem min4_ex {l a b c d : Int} (h1 : l ≤ a) (h2 : l ≤ b) (h3 : l ≤ c) (h4 : l ≤ d) : ∃ u, l ≤ u ∧ ∀ (ts : Array TypeId) (t : TypeId) (w : World), (Builtin.min_ ts t #[.int .i64 a, .int .i64 b, .int .i64 c, .int .i64 d]).run Try.prog w = .ok (.int .i64 u) w :=
  ⟨_, by split <;> split <;> split <;> omega, fun ts t w => run_min_int4 ts t .i64 .i64 .i64 .i64 a b c d⟩
theorem more_all2 {cs D K : List Ca} {fs : List Int} {dry days nf a b dm mo : Int} {us us2 : List Us} (hok : netOk cs fs dry days = true) (hok2 : netOk cs fs (dry + dm) days = true) (hD : caRel denseOf cs D) (hK : caRel knownOf cs K) (huo : usesOk nf days us = true) (huo2 : usesOk nf days us2 = true) (hu : usLe us us2)
    (ha : 0 ≤ a) (hb : 0 ≤ b) (hm : 0 ≤ mo) (hd : 0 ≤ dm) (i : Nat) :
    moreAt (atS (watersK cs fs dry (days * 1440) a b us us.length).1 i) (atS (watersK D fs dry (days * 1440) a b us us.length).1 i) (atS (watersK cs fs (dry + dm) (days * 1440) a b us us.length).1 i) (atS (watersK cs fs dry (days * 1440) (a + mo) (b + mo) us us.length).1 i) (atS (watersK cs fs dry (days * 1440) a b us2 us2.length).1 i) (atS (watersK K fs dry (days * 1440) a b us us.length).1 i) := by
  rw [← hu.1]
  exact more_all hok hok2 hD hK huo huo2 hu ha hb hm hd us.length i
end Go.Proofs.Ythlnbgjlkliopaa
