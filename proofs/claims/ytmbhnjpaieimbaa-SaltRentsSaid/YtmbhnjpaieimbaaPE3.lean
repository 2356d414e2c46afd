/- Rents of one's own: one more is appended, one gets dearer. No walk. -/
import Derived.Test.YtmbhnjpaieimbaaOpenR
import Derived.Test.YtmbhnjpaieimbaaPC8
set_option linter.unusedVariables false
set_option linter.unusedSimpArgs false
namespace Go.Proofs.Ytmbhnjpaieimbaa
open Go.RowKit Go.Shelf Go.WideShapes Go.ChangeShapes Go.ChangeAt Go.Deep
set_option maxRecDepth 100000 in
theorem open_valW {α : Type} {t : TypeId} {rep : α → List Value} {W : World} {ok : α → Prop} (hs : ShapeAt W t rep ok) {fs : Array Field} (ht : Try.prog.underlying t = some (.struct fs)) {H : Type} {enc : TypeId × Value → H} {base b' : Nat} {spare : Nat → Bool} {held : Bool} {v : Value} {d : DataW H} {p : List MemPlace}
    (hv : Value.okWide Try.prog W .any b' t v) (h : DataW.Trod enc Try.prog W base spare held t v d p) : ∃ a : α, v = .agg (rep a).toArray ∧ ok a := by
  obtain ⟨cs, rfl, _⟩ := okWide_struct ht hv
  obtain ⟨fuel, hf⟩ := h
  obtain ⟨a, e, o⟩ := hs _ _ _ _ _ _ _ _ hf
  refine ⟨a, ?_, o⟩
  have : cs.toList = rep a := e
  rw [← this]
theorem own_map {A : Option Addr} {n c g : Nat} (h : (Value.slice A n c).ownBlock = some g) : A.map Addr.block = some g := by cases A <;> exact h
theorem RsOwn.bel {w w' : World} {base : Nat} {A : Option Addr} {n c : Nat} {rs : List Rr} (h : RsOwn w base A n c rs) (hb : Below w.heap.size w w') : RsOwn w' base A n c rs :=
  ⟨h.at_.bel hb, h.own.bel hb, fun r hr => by obtain ⟨z, h1, h2, h3⟩ := h.row r hr; exact ⟨z, h1, h2, h3.bel hb⟩⟩
theorem RsOwn.mono {w : World} {base b' : Nat} {A : Option Addr} {n c : Nat} {rs : List Rr} (h : RsOwn w base A n c rs) (hb : b' ≤ base) : RsOwn w b' A n c rs :=
  ⟨h.at_, h.own.mono hb, fun r hr => by obtain ⟨z, h1, h2, h3⟩ := h.row r hr; exact ⟨z, Nat.le_trans hb h1, h2, h3⟩⟩
theorem RsOwn.keptR {w w' : World} {base : Nat} {A : Option Addr} {n c : Nat} {rs : List Rr} {R : Nat → Prop} (h : RsOwn w base A n c rs) (hk : Kept R w w') (hr : ∀ b, base ≤ b → R b) : RsOwn w' base A n c rs := by
  have ho := h.own.keptR hk hr
  obtain ⟨A', c', ea, rd⟩ := ho.rdn n h.at_.en.symm
  injection ea with ea1 _ ea2
  subst ea1
  refine ⟨⟨rd, h.at_.en, fun r hrr => ?_⟩, ho, fun r hrr => ?_⟩
  · obtain ⟨z, hz, _, hrow⟩ := h.row r hrr
    have h0 := h.at_.row r hrr
    obtain ⟨A'', c'', eb, rb⟩ := (hrow.keptR hk (fun b hb => hr b (Nat.le_trans hz hb))).rdn r.n h0.1.symm
    injection eb with eb1 _ eb2
    subst eb1
    exact ⟨h0.1, h0.2.1, rb⟩
  · obtain ⟨z, h1, h2, h3⟩ := h.row r hrr
    exact ⟨z, h1, h2, h3.keptR hk (fun b hb => hr b (Nat.le_trans h1 hb))⟩
/-- One more. -/
theorem RsOwn.app {w wl wv : World} {base : Nat} {A : Option Addr} {n c : Nat} {rs : List Rr} {q : Rr} {v' : Value} (h : RsOwn w base A n c rs) (hb : Below w.heap.size w wl) (hg : wl.grownBy wv (Value.slice A n c).ownBlock) (ho : Own wv base 89 3 Rr.cells v' (rs ++ [q]))
    (hbs : base ≤ w.heap.size) (hq : q.n = q.fs.length ∧ q.n ≤ 9223372036854775807 ∧ Rd w base icell q.A q.fs) : (∃ A' c', v' = .slice A' (n + 1) c' ∧ RsAt0 wv A' (n + 1) (rs ++ [q])) ∧ Below base w wv := by
  have K := kept_app2 h.own hb hg
  have hlt : ∀ b, b < base → ¬ (Value.slice A n c).ownBlock = some b := fun b hb e => by have := (h.own.blockG e).1; omega
  obtain ⟨A', c', rfl, rd⟩ := ho.rdn (n + 1) (by rw [List.length_append, ← h.at_.en]; rfl)
  refine ⟨⟨A', c', rfl, rd, by rw [List.length_append, ← h.at_.en]; rfl, fun r hr => ?_⟩, K.below hlt hbs⟩
  rcases List.mem_append.1 hr with hr | hr
  · obtain ⟨z, hz, hgz, hrow⟩ := h.row r hr
    have h0 := h.at_.row r hr
    have h1 := hrow.keptG K (fun g hg e => by
      have := hgz g (own_map e)
      have := (hrow.blockG hg).1
      omega)
    obtain ⟨A'', c'', eb, rb⟩ := h1.rdn r.n h0.1.symm
    injection eb with eb1 _ eb2
    subst eb1
    exact ⟨h0.1, h0.2.1, rb⟩
  · obtain rfl := List.mem_singleton.1 hr
    exact ⟨hq.1, hq.2.1, (hq.2.2.keptR K hlt hbs).more (Nat.le_trans hbs K.size)⟩
/-- One that is dearer. -/
theorem RsOwn.dear {w : World} {base g n c i : Nat} {rs : List Rr} {r : Rr} (h : RsOwn w base (some ⟨g, 0, none⟩) n c rs) (hr : rs[i]? = some r) (p : Int) :
    RsAt0 (w.setCell ⟨g, i * 3 + 1, none⟩ (.int .i64 p)) (some ⟨g, 0, none⟩) n (rs.set i { r with pr := p }) ∧ w.cell? ⟨g, i * 3 + 1, none⟩ = some (.int .i64 r.pr) ∧ w.frozen? ⟨g, i * 3 + 1, none⟩ = false ∧ base ≤ g ∧ g < w.heap.size := by
  obtain ⟨p1, _, p3⟩ := h.own.put_ Rr.len hr (j := 1) (x' := { r with pr := p }) (u := .int .i64 p) (by omega) rfl h.at_.en
  have hgb := h.own.blockG (g := g) rfl
  have kst : Kept (fun b => b ≠ g) w (w.setCell ⟨g, i * 3 + 1, none⟩ (.int .i64 p)) := Kept.setCell w ⟨g, i * 3 + 1, none⟩ _
  obtain ⟨A', c', ea, rd⟩ := p1.rdn n (by rw [List.length_set]; exact h.at_.en.symm)
  injection ea with ea1 _ ea2
  subst ea1
  obtain ⟨b, off, r', hA, _, hxr, _, c1, _⟩ := h.at_.rd.rr (i := i) (List.getElem?_eq_some_iff.1 hr).1
  injection hA with hA
  injection hA with hA1 hA2 _
  subst hA1 hA2
  obtain rfl : r' = r := by rw [hr] at hxr; exact (Option.some.inj hxr).symm
  rw [Nat.zero_add] at c1
  refine ⟨⟨rd, by rw [List.length_set]; exact h.at_.en, fun x hx => ?_⟩, c1, p3, hgb.1, hgb.2⟩
  have hx2 : ∃ y ∈ rs, x.n = y.n ∧ x.fs = y.fs ∧ x.A = y.A ∧ x.c = y.c := by
    rcases List.mem_or_eq_of_mem_set hx with h1 | h1
    · exact ⟨x, h1, rfl, rfl, rfl, rfl⟩
    · exact ⟨r', List.mem_of_getElem? hr, by rw [h1], by rw [h1], by rw [h1], by rw [h1]⟩
  obtain ⟨y, hy, e1, e2, e3, e4⟩ := hx2
  obtain ⟨z, hz, hgz, hrow⟩ := h.row y hy
  have h0 := h.at_.row y hy
  have h1 := hrow.keptG kst (fun gg e => by
    have := hgz g rfl
    have := (hrow.blockG e).1
    show gg ≠ g
    omega)
  obtain ⟨A'', c'', eb, rb⟩ := h1.rdn y.n h0.1.symm
  injection eb with eb1 _ eb2
  subst eb1
  rw [e1, e2, e3]
  exact ⟨h0.1, h0.2.1, rb⟩
theorem strips_app {rs rs' : List Rr} (h : strips rs' = strips rs) (q : Rr) : strips (rs' ++ [q]) = strips (rs ++ [q]) := by
  unfold strips at h ⊢
  rw [List.map_append, List.map_append, h]
theorem strips_dear {rs rd : List Rr} {i : Nat} {x y : Rr} (h : strips rd = strips rs) (hx : rs[i]? = some x) (hy : rd[i]? = some y) (p : Int) : strips (rd.set i { y with pr := p }) = strips (rs.set i { x with pr := p }) := by
  obtain ⟨x', hx', e1, _, e3, e4⟩ := strips_at h hy
  obtain rfl : x = x' := by rw [hx] at hx'; exact Option.some.inj hx'
  have e : ({ y with pr := p } : Rr).strip = ({ x with pr := p } : Rr).strip := by
    unfold Rr.strip
    rw [e1, e3, e4]
  unfold strips at h ⊢
  rw [List.map_set, List.map_set, h, e]
theorem RsAt0.dearAt {w : World} {A : Option Addr} {n i : Nat} {rs rd : List Rr} {y : Rr} {p : Int} (h : RsAt0 w A n (rd.set i { y with pr := p })) (hs : strips rd = strips rs) (hy : rd[i]? = some y) (hb : ∀ r ∈ rs, r.n ≤ 1000) : RsAt w A n (rd.set i { y with pr := p }) := by
  have hd : ∀ r ∈ rd, r.n ≤ 1000 := fun r hr => by
    obtain ⟨j, hj, hjr⟩ := List.getElem_of_mem hr
    obtain ⟨q, hq, _, _, e3, _⟩ := strips_at hs (show rd[j]? = some r by rw [List.getElem?_eq_getElem hj, hjr])
    rw [e3]; exact hb q (List.mem_of_getElem? hq)
  refine ⟨h.rd, h.en, fun r hr => ⟨(h.row r hr).1, ?_, (h.row r hr).2.2⟩⟩
  rcases List.mem_or_eq_of_mem_set hr with h1 | h1
  · exact hd r h1
  · rw [h1]; exact hd y (List.mem_of_getElem? hy)
end Go.Proofs.Ytmbhnjpaieimbaa
