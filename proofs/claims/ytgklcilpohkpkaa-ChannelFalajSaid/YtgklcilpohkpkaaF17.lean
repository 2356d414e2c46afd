/- Gallery: Flows, by contract. -/
import Derived.Test.YtgklcilpohkpkaaF16
import Derived.Test.YtgklcilpohkpkaaGA
set_option linter.unusedVariables false
set_option linter.unusedSimpArgs false
namespace Go.Proofs.Ytgklcilpohkpkaa
open Go.RowKit Go.Shelf
attribute [local go_sem] ite_min ite_max
def flErr (g : List Rc) (s : Sp) (l : List Ga) : Int := if gEnter g s l = 0 then (if (fitS g l s).isSome then 0 else 24) else gEnter g s l
def flL (g : List Rc) (s : Sp) (l : List Ga) : List Sp := if flErr g s l = 0 then (fitS g l s).getD [] else []
def loL (g : List Rc) (s : Sp) (l : List Ga) : List Sp := if flErr g s l = 0 then lostS g ((fitS g l s).getD []) else []
def FlowsPost (g : List Rc) (s : Sp) (l : List Ga) (w : World) (e : Ending) (w' : World) : Prop :=
  ∃ vf vl, e = .returned (.tuple #[vf, vl, .int .i64 (flErr g s l)]) ∧ Own w' w.heap.size 51 2 Sp.cells vf (flL g s l) ∧ Own w' w.heap.size 51 2 Sp.cells vl (loL g s l) ∧ Below w.heap.size w w'
theorem bad_fine {m : Int} {s : Sp} (h : Sp.bad m s = false) : s.fine m := by
  simp only [Sp.bad, Bool.or_eq_false_iff, decide_eq_false_iff_not] at h
  unfold Sp.fine; omega
theorem gOk_fine {g : List Rc} (h : gOk g = true) : ∀ r ∈ g, r.fine := by
  intro r hr
  simp only [gOk, Bool.and_eq_true, Bool.not_eq_true', List.any_eq_false] at h
  have h1 := h.2 r hr
  simp only [Rc.bad, anyBad, List.any_cons, List.any_nil, Bool.or_false, Bool.or_eq_true, not_or, Bool.not_eq_true] at h1
  exact ⟨bad_fine h1.1, bad_fine h1.2.1, bad_fine h1.2.2⟩
theorem enter_parts {g : List Rc} {s : Sp} {l : List Ga} (h : gEnter g s l = 0) : gOk g = true ∧ g.length ≤ 12 ∧ l.length ≤ 30 ∧ (∀ r ∈ g, r.fine) ∧ s.fine 1000000 ∧ gaIn g.length l ∧ ∀ x ∈ l, x.flow.fine 13000000 := by
  unfold gEnter at h
  split at h
  · rename_i h1
    split at h
    · omega
    · rename_i h2
      split at h
      · omega
      · rename_i h3
        simp only [gasBad, Bool.or_eq_true, decide_eq_true_eq, not_or, Nat.not_lt, Bool.not_eq_true, List.any_eq_false] at h3
        have h4 : ∀ x ∈ l, (0 ≤ x.shaft ∧ x.shaft ≤ g.length) ∧ x.flow.fine 13000000 := fun x hx => by
          have := h3.2 x hx
          simp only [Ga.bad, anyBad, List.any_cons, List.any_nil, Bool.or_false, Bool.or_eq_false_iff, Bool.not_eq_false'] at this
          refine ⟨?_, bad_fine this.2⟩
          have h5 := this.1
          simp only [inB, Bool.and_eq_true, decide_eq_true_eq] at h5
          exact h5
        have h5 : g.length ≤ 12 := by
          simp only [gOk, inB, Bool.and_eq_true, decide_eq_true_eq] at h1
          omega
        refine ⟨h1, h5, h3.1, gOk_fine h1, bad_fine (by simpa [anyBad] using h2), fun x hx => (h4 x hx).1, fun x hx => (h4 x hx).2⟩
  · omega
theorem flowsF_fine : ∀ (g : List Rc) (rd : List Sp) (s : Sp) (l : List Sp), (∀ r ∈ g, r.fine) → (∀ x ∈ rd, 0 ≤ x.lo ∧ x.lo ≤ 13000000 ∧ 0 ≤ x.hi ∧ x.hi ≤ 13000000) → s.fine 13000000 → flowsF g rd s = some l → ∀ x ∈ l, x.fine 13000000
  | g, rd, s, l, hg, hrd, hs, h => by
    obtain ⟨t, l', rfl, h1, h2, h3⟩ := flowsF_head g rd s l hg h
    have hx : 0 ≤ (rd.headD allS).lo ∧ (rd.headD allS).lo ≤ 13000000 ∧ 0 ≤ (rd.headD allS).hi ∧ (rd.headD allS).hi ≤ 13000000 := by
      cases rd with
      | nil => simp [allS]
      | cons y rd => exact hrd y (by simp)
    obtain ⟨a1, a2, a3⟩ := hs
    have ht : t.fine 13000000 := by
      simp only [cutS, Sp.fine] at *; omega
    intro x hxm
    rcases List.mem_cons.1 hxm with rfl | hxm
    · exact ht
    · match g, hg, h with
      | [], _, h =>
        unfold flowsF at h
        split at h
        · injection h with h; injection h with _ h; subst h; cases hxm
        · cases h
      | r :: g, hg, h =>
        unfold flowsF at h
        split at h
        · rename_i hok
          obtain ⟨l2, hl2, e⟩ := Option.map_eq_some_iff.1 h
          injection e with _ e
          subst e
          have hc : (cutS s (rd.headD allS)).fine 13000000 := by simp only [cutS, Sp.fine] at *; omega
          have ho := outS_fine (hg r (by simp)) hc
          have ho2 : (outS r (cutS s (rd.headD allS))).fine 13000000 := by obtain ⟨b1, b2, b3⟩ := ho; exact ⟨b1, b2, by omega⟩
          exact flowsF_fine g rd.tail _ l2 (fun r hr => hg r (by simp [hr])) (fun y hy => hrd y (List.mem_of_mem_tail hy)) ho2 hl2 x hxm
        · cases h
theorem lostS_get {g : List Rc} {F : List Sp} {k : Nat} {r : Rc} {f : Sp} (hr : g[k]? = some r) (hf : F[k]? = some f) : (lostS g F).take (k + 1) = (lostS g F).take k ++ [⟨f.lo - max 0 (min f.lo r.cap.hi - r.leak.lo), f.hi - max 0 (min f.hi r.cap.lo - r.leak.hi)⟩] := by
  refine take_snoc ?_
  unfold lostS
  rw [List.getElem?_map, List.getElem?_range (List.getElem?_eq_some_iff.1 hr).1]
  simp [List.getD_eq_getElem?_getD, hr, hf]
theorem lostS_len (g : List Rc) (F : List Sp) : (lostS g F).length = g.length := by simp [lostS]
theorem Own.rdw {α : Type} {cells : α → List Value} {w : World} {base : Nat} {e : TypeId} {k : Nat} {A : Option Addr} {n c : Nat} {xs : List α} (h : Own w base e k cells (.slice A n c) xs) : Rd w w.heap.size cells A xs := by
  obtain ⟨_, _, hA, hr⟩ := h.rd
  injection hA with h1 _ _
  subst h1
  exact hr
set_option maxHeartbeats 4000000 in
set_option maxRecDepth 100000 in
theorem gflows_any (A A' : Option Addr) (g : List Rc) (s : Sp) (l : List Ga) (n c n' c' : Nat) (w : World) (hn : n = g.length) (hm : n ≤ 9223372036854775807) (hx : Rd w w.heap.size Rc.cells A g)
    (hn' : n' = l.length) (hm' : n' ≤ 9223372036854775807) (hx' : Rd w w.heap.size Ga.cells A' l) :
    Calls Try.prog 52 #[.slice A n c, .agg #[.int .i64 s.lo, .int .i64 s.hi], .slice A' n' c'] w (FlowsPost g s l w) := by
  obtain ⟨b4, w1, e4, ew1, hx4, hb1, hz1⟩ := mk_bx w #[.int .i64 s.lo, .int .i64 s.hi] 51
  have HE := hide (genter_any A A' g s.lo s.hi l n c n' c' w1 hn hm ((hx.below hb1).more hb1.size) hn' hm' ((hx'.below hb1).more hb1.size))
  obtain ⟨q0, q1, _, _⟩ := hx4.w2
  have Hn := hide hn; have Hn' := hide hn'; have Hx := hide hx; have Hx' := hide hx'
  clear hn hn' hx hx' hz1
  by_cases he : gEnter g s l = 0
  · obtain ⟨hok, hg12, hl30, hfine, hs, hga, hgf⟩ := enter_parts he
    have HE0 := hide (show Calls Try.prog 84 #[.slice A n c, .agg #[.int .i64 s.lo, .int .i64 s.hi], .slice A' n' c'] w1 fun e w' => e = .returned (.int .i64 0) ∧ Below w1.heap.size w1 w' by have := HE.out; rw [he] at this; exact this)
    have He := hide he
    clear he HE
    have hn12 : n ≤ 12 := by rw [Hn.out]; exact hg12
    have hn30 : n' ≤ 30 := by rw [Hn'.out]; exact hl30
    go_enter Try.func52, Try.ntmps52
    go_wp2_with fail
    rw [ew1.out, e4.out]
    refine HE0.out.mono ?_
    rintro e w2 ⟨rfl, hb2⟩
    have hx42 := hx4.bel hb2
    obtain ⟨q0, q1, _, _⟩ := hx42.w2
    have hB2 := hb1.trans (hb2.mono hb1.size)
    go_wp2_with fail
    refine (open_any A A' g l n c n' c' w2 Hn.out (by omega) ((Hx.out.below hB2).more hB2.size) Hn'.out (by omega) ((Hx'.out.below hB2).more hB2.size) (by rw [Hn.out]; exact hga)).mono ?_
    rintro e w3 ⟨Aa, ca, gb, cb, rfl, hoa, hob, hb3⟩
    have hx43 := hx42.bel hb3
    obtain ⟨q0, q1, _, _⟩ := hx43.w2
    have hra := hoa.rdw
    have hrb := hob.rdw
    have l43 := hx43.lt
    go_wp2_with fail
    obtain ⟨b10, w4, e10, ew4, hx10, hb4, hz4⟩ := mk_bx w3 #[.slice Aa n ca, .slice (some ⟨gb, 0, none⟩) (n + 1) cb] 145
    rw [ew4.out, e10.out]
    have eF : flowsF g (rdS n l) s = fitS g l s := by rw [Hn.out]; rfl
    have HFit := hide (fit_any Aa (some ⟨gb, 0, none⟩) n ca cb g (rdS n l) s w4 (hra.bel hb4) (hrb.bel hb4) Hn.out (by omega) (rdS_len _ _) hfine (rdS_bd n l hgf) hs)
    have hB4 := hB2.trans ((hb3.trans (hb4.mono hb3.size)).mono hB2.size)
    have hx10' := hx10
    have Hra := hide (hra.bel hb4)
    clear hx42 hx43 hx4 hoa hob hra hrb
    cases hF : fitS g l s with
    | none =>
      rw [hF] at eF
      have E1 := hide (show flErr g s l = 24 by simp [flErr, He.out, hF])
      have hp : FitPost g (rdS n l) s = fun w e w' => ∃ v, e = .returned (.tuple #[v, .bool false]) ∧ Own w' w.heap.size 51 2 Sp.cells v [] ∧ Below w.heap.size w w' := by funext w e w'; simp [FitPost, eF]
      rw [hp] at HFit
      clear hF eF hp
      refine HFit.out.mono ?_
      rintro e w5 ⟨v, rfl, hov, hb5⟩
      clear hov
      go_wp2_with fail
      refine bodyPost_ret (v := .tuple #[.slice none 0 0, .slice none 0 0, .int .i64 24]) (by simp [results, Try.results52, go_sem]; try rfl) rfl ?_
      exact ⟨.slice none 0 0, .slice none 0 0, by rw [E1.out], by simp only [flL, E1.out]; exact Own.nil _ _ _ _ _, by simp only [loL, E1.out]; exact Own.nil _ _ _ _ _, hB4.trans (hb5.mono hB4.size)⟩
    | some F =>
      rw [hF] at eF
      have E1 := hide (show flErr g s l = 0 by simp [flErr, He.out, hF])
      have hp : FitPost g (rdS n l) s = fun w e w' => ∃ v, e = .returned (.tuple #[v, .bool true]) ∧ Own w' w.heap.size 51 2 Sp.cells v F ∧ Below w.heap.size w w' := by funext w e w'; simp [FitPost, eF]
      rw [hp] at HFit
      have hFl : F.length = n + 1 := by rw [flowsF_len _ _ _ _ eF, Hn.out]
      have hFfine := flowsF_fine _ _ _ _ hfine (rdS_bd n l hgf) (by obtain ⟨b1, b2, b3⟩ := hs; exact ⟨b1, b2, by omega⟩) eF
      have HF := hide hF; have HFl := hide hFl; have HFf := hide hFfine; have Hfine := hide hfine
      clear hF eF hp hFl hFfine
      refine HFit.out.mono ?_
      rintro e w5 ⟨v, rfl, hov, hb5⟩
      obtain ⟨Af, cf, rfl, hrf⟩ := hov.rdn (n + 1) HFl.out
      obtain ⟨v0, v1, _, _⟩ := (hx10.bel hb5).w2
      have Hov := hide hov
      have hB5 := hB4.trans (hb5.mono hB4.size)
      have Hra5 := hide (Hra.out.bel hb5); have Hrf5 := hide hrf
      clear hov hrf
      go_wp2_with fail
      go_loopw [7, 36] (fun a i wr => ∃ (k : Nat) (vl : Value), vl = a ∧ i = .int .i64 k ∧ k ≤ n ∧ Own wr w5.heap.size 51 2 Sp.cells vl ((lostS g F).take k) ∧ Below w5.heap.size w5 wr) (fun _ i _ => n - (intOf i).toNat)
      case atStart => exact ⟨0, _, rfl, rfl, by omega, Own.nil _ _ _ _ _, Below.refl _ _⟩
      case round =>
        obtain ⟨k, vl, rfl, rfl, hk, hvl, hb⟩ := hrel
        by_cases hlt : k < n
        · obtain ⟨bg, offg, a0, a1, a2, a3, a4, a5, rfl, hbg, hxk, e0, e1, e2, e3, e4', e5⟩ := (Hra5.out.below hb).rc (i := k) (by have := Hn.out; omega)
          obtain ⟨bq, offq, f0, f1, rfl, hbq, hfk, d0, d1⟩ := (Hrf5.out.below hb).sp (i := k) (by have := HFl.out; omega)
          have hff := HFf.out _ (List.mem_of_getElem? hfk)
          obtain ⟨⟨g1, g2, g3⟩, ⟨g4, g5, g6⟩, ⟨g7, g8, g9⟩⟩ := Hfine.out _ (List.mem_of_getElem? hxk)
          obtain ⟨f, hf⟩ : ∃ f : Sp, f = ⟨f0, f1⟩ := ⟨_, rfl⟩
          have ef0 : f0 = f.lo := by rw [hf]
          have ef1 : f1 = f.hi := by rw [hf]
          subst ef0 ef1
          obtain ⟨fb1, fb2, fb3⟩ := hff
          simp only at g1 g2 g3 g4 g5 g6 g7 g8 g9 fb1 fb2 fb3
          have hstep := lostS_get hxk hfk
          have hx : ∀ m : Int, m = m := fun _ => rfl
          obtain ⟨b13, w13, e13, ew13, hx13, hb13, hz13⟩ := mk_bx wr #[.int .i64 a0, .int .i64 a1, .int .i64 a2, .int .i64 a3, .int .i64 a4, .int .i64 a5] 150
          obtain ⟨b14, w14, e14, ew14, hx14, hb14, hz14⟩ := mk_bx w13 #[.int .i64 f.lo, .int .i64 f.hi] 51
          have mb1 : 0 ≤ f.lo ∧ f.lo ≤ 1000000000 := by omega
          have mb2 : 0 ≤ a1 ∧ a1 ≤ 1000000000 := by omega
          have mb3 : 0 ≤ a2 ∧ a2 ≤ 1000000000 := by omega
          have mb4 : 0 ≤ a5 ∧ a5 ≤ 1000000000 := by omega
          have lb1 : 0 ≤ f.hi ∧ f.hi ≤ 1000000000 := by omega
          have lb2 : 0 ≤ a0 ∧ a0 ≤ 1000000000 := by omega
          have lb3 : 0 ≤ a3 ∧ a3 ≤ 1000000000 := by omega
          have lb4 : 0 ≤ a4 ∧ a4 ≤ 1000000000 := by omega
          have k1 : IntKind.i64.wrap (f.lo + a5) = f.lo + a5 := wrapI (by omega)
          have k2 : IntKind.i64.wrap (f.hi + a4) = f.hi + a4 := wrapI (by omega)
          have k3 : IntKind.i64.wrap (f.lo + a5 - mostF ⟨⟨a0, a1⟩, ⟨a2, a3⟩, ⟨a4, a5⟩⟩ f.lo) = f.lo + a5 - mostF ⟨⟨a0, a1⟩, ⟨a2, a3⟩, ⟨a4, a5⟩⟩ f.lo := wrapI (by simp only [mostF]; omega)
          have k4 : IntKind.i64.wrap (f.hi + a4 - leastF ⟨⟨a0, a1⟩, ⟨a2, a3⟩, ⟨a4, a5⟩⟩ f.hi) = f.hi + a4 - leastF ⟨⟨a0, a1⟩, ⟨a2, a3⟩, ⟨a4, a5⟩⟩ f.hi := wrapI (by simp only [leastF]; omega)
          have hres : (⟨f.lo + a5 - mostF ⟨⟨a0, a1⟩, ⟨a2, a3⟩, ⟨a4, a5⟩⟩ f.lo, f.hi + a4 - leastF ⟨⟨a0, a1⟩, ⟨a2, a3⟩, ⟨a4, a5⟩⟩ f.hi⟩ : Sp) = ⟨f.lo - max 0 (min f.lo a1 - a2), f.hi - max 0 (min f.hi a0 - a3)⟩ := by
            simp only [mostF, leastF, Sp.mk.injEq]; omega
          simp only at hstep
          rw [← hres] at hstep
          obtain ⟨LL, hLL⟩ : ∃ LL, LL = (lostS g F).take k := ⟨_, rfl⟩
          have hLlen : LL.length ≤ 12 := by rw [hLL, List.length_take, lostS_len, ← Hn.out]; omega
          rw [← hLL] at hvl hstep
          have Hstep := hide hstep
          have i13 : b14 = b13 + 1 := by have := e14.out; omega
          subst i13
          have hvlb := fun q hq => (hvl.blockG (g := q) hq).2
          have hne13 : ¬ vl.ownBlock = some b13 := fun e => by have := hvlb _ e; have := e13.out; omega
          have hne14 : ¬ vl.ownBlock = some (b13 + 1) := fun e => by have := hvlb _ e; have := e13.out; omega
          have hbase : w5.heap.size ≤ w14.heap.size := by have := hb.size; have := hb13.size; have := hb14.size; omega
          have Hb := hide hb; have Hvl0 := hide hvl
          have hbqw : bq < wr.heap.size := by have := hb.size; omega
          replace hx13 := hx13.bel hb14
          replace hvl := (hvl.bel hb13).bel hb14
          have hb134 := hb13.trans (hb14.mono hb13.size)
          clear hxk hfk hf hstep hLL hvlb hres hx hz13 hz14 g1 g2 g3 g4 g5 g6 g7 g8 g9 fb1 fb2 fb3 hb
          go_wp2_with fail
          rw [ew13.out, e13.out, ew14.out]
          refine wp_region_held_drew (S := (fun W => Kept (fun b => ¬ vl.ownBlock = some b) w14 W)) (by kernel_rfl) (by (try dsimp only); exact Kept.all _ (Below.refl _ _).drew) (fun hHeld => ?_)
          have hdr : Below w14.heap.size w14 (World.drew w14) := (Below.refl _ _).drew
          generalize World.drew w14 = Wd12 at hHeld hdr ⊢
          have hvl := hvl.bel hdr
          have hbc := Below.refl Wd12.heap.size Wd12
          refine tkH 0 ?_ rfl (Or.inl ⟨by rfl, ?_⟩) hHeld ?_
          rotate_left
          · (intro w _; go_simp; try (with_reducible rfl))
          try simp only [Act.put, tl1, tl2, tl3]
          refine tkH 1 ?_ rfl (Or.inl ⟨by rfl, ?_⟩) hHeld ?_
          rotate_left
          · (intro w _; go_simp; try (with_reducible rfl))
          try simp only [Act.put, tl1, tl2, tl3]
          refine tkH 2 ?_ rfl (Or.inl ⟨by rfl, ?_⟩) hHeld ?_
          rotate_left
          · (intro w hSw; (try dsimp only at hSw); obtain ⟨q0, q1, _, _⟩ := (hx14.kept hSw hne14).w2; obtain ⟨z0, z1, z2, z3, z4, z5⟩ := (hx13.at_.kept hSw hne13).c6; go_simp; try (with_reducible rfl))
          try simp only [Act.put, tl1, tl2, tl3]
          refine tkH 3 ?_ rfl (Or.inl ⟨by rfl, ?_⟩) hHeld ?_
          rotate_left
          · (intro w _; go_simp; try (with_reducible rfl))
          try simp only [Act.put, tl1, tl2, tl3]
          refine tkH 4 ?_ rfl (Or.inl ⟨by rfl, ?_⟩) hHeld ?_
          rotate_left
          · (intro w _; go_simp; try (with_reducible rfl))
          try simp only [Act.put, tl1, tl2, tl3]
          refine tkH 5 ?_ rfl (Or.inl ⟨by rfl, ?_⟩) hHeld ?_
          rotate_left
          · (intro w _; go_simp; try (with_reducible rfl))
          try simp only [Act.put, tl1, tl2, tl3]
          refine tkH 6 ?_ rfl (Or.inl ⟨by rfl, ?_⟩) hHeld ?_
          rotate_left
          · (intro w hSw; (try dsimp only at hSw); obtain ⟨q0, q1, _, _⟩ := (hx14.kept hSw hne14).w2; obtain ⟨z0, z1, z2, z3, z4, z5⟩ := (hx13.at_.kept hSw hne13).c6; go_simp; try (with_reducible rfl))
          try simp only [Act.put, tl1, tl2, tl3]
          refine tkH 7 ?_ rfl (Or.inl ⟨by rfl, ?_⟩) hHeld ?_
          rotate_left
          · (intro w _; go_simp; try (with_reducible rfl))
          try simp only [Act.put, tl1, tl2, tl3]
          refine tkH 8 ?_ rfl (Or.inl ⟨by rfl, ?_⟩) hHeld ?_
          rotate_left
          · (intro w hSw; (try dsimp only at hSw); obtain ⟨q0, q1, _, _⟩ := (hx14.kept hSw hne14).w2; obtain ⟨z0, z1, z2, z3, z4, z5⟩ := (hx13.at_.kept hSw hne13).c6; go_simp; try (with_reducible rfl))
          try simp only [Act.put, tl1, tl2, tl3]
          refine tkH 9 ?_ rfl (Or.inl ⟨by rfl, ?_⟩) hHeld ?_
          rotate_left
          · (intro w _; go_simp; try (with_reducible rfl))
          try simp only [Act.put, tl1, tl2, tl3]
          refine tkH 10 ?_ rfl (Or.inl ⟨by rfl, ?_⟩) hHeld ?_
          rotate_left
          · (intro w hSw; (try dsimp only at hSw); obtain ⟨q0, q1, _, _⟩ := (hx14.kept hSw hne14).w2; obtain ⟨z0, z1, z2, z3, z4, z5⟩ := (hx13.at_.kept hSw hne13).c6; go_simp; try (with_reducible rfl))
          try simp only [Act.put, tl1, tl2, tl3]
          refine tkH 13 ?_ rfl (Or.inl ⟨by rfl, ?_⟩) hHeld ?_
          rotate_left
          · (intro w _; go_simp; try (with_reducible rfl))
          try simp only [Act.put, tl1, tl2, tl3]
          refine tkH 14 ?_ rfl (Or.inl ⟨by rfl, ?_⟩) hHeld ?_
          rotate_left
          · (intro w hSw; (try dsimp only at hSw); obtain ⟨q0, q1, _, _⟩ := (hx14.kept hSw hne14).w2; obtain ⟨z0, z1, z2, z3, z4, z5⟩ := (hx13.at_.kept hSw hne13).c6; go_simp; try (with_reducible rfl))
          try simp only [Act.put, tl1, tl2, tl3]
          refine tkH 15 ?_ rfl (Or.inl ⟨by rfl, ?_⟩) hHeld ?_
          rotate_left
          · (intro w _; go_simp; try (with_reducible rfl))
          try simp only [Act.put, tl1, tl2, tl3]
          refine tkH 16 ?_ rfl (Or.inl ⟨by rfl, ?_⟩) hHeld ?_
          rotate_left
          · (intro w _; go_simp; try (with_reducible rfl))
          try simp only [Act.put, tl1, tl2, tl3]
          refine tkH 17 ?_ rfl (Or.inl ⟨by rfl, ?_⟩) hHeld ?_
          rotate_left
          · (intro w _; go_simp; try (with_reducible rfl))
          try simp only [Act.put, tl1, tl2, tl3]
          refine tkH 18 ?_ rfl (Or.inl ⟨by rfl, ?_⟩) hHeld ?_
          rotate_left
          · (intro w hSw; (try dsimp only at hSw); obtain ⟨q0, q1, _, _⟩ := (hx14.kept hSw hne14).w2; obtain ⟨z0, z1, z2, z3, z4, z5⟩ := (hx13.at_.kept hSw hne13).c6; go_simp; try (with_reducible rfl))
          try simp only [Act.put, tl1, tl2, tl3]
          refine tkH 19 ?_ rfl (Or.inl ⟨by rfl, ?_⟩) hHeld ?_
          rotate_left
          · (intro w _; go_simp; try (with_reducible rfl))
          try simp only [Act.put, tl1, tl2, tl3]
          refine tkH 20 ?_ rfl (Or.inl ⟨by rfl, ?_⟩) hHeld ?_
          rotate_left
          · (intro w hSw; (try dsimp only at hSw); obtain ⟨q0, q1, _, _⟩ := (hx14.kept hSw hne14).w2; obtain ⟨z0, z1, z2, z3, z4, z5⟩ := (hx13.at_.kept hSw hne13).c6; go_simp; try (with_reducible rfl))
          try simp only [Act.put, tl1, tl2, tl3]
          refine tkH 21 ?_ rfl (Or.inl ⟨by rfl, ?_⟩) hHeld ?_
          rotate_left
          · (intro w _; go_simp; try (with_reducible rfl))
          try simp only [Act.put, tl1, tl2, tl3]
          refine tkH 22 ?_ rfl (Or.inl ⟨by rfl, ?_⟩) hHeld ?_
          rotate_left
          · (intro w hSw; (try dsimp only at hSw); obtain ⟨q0, q1, _, _⟩ := (hx14.kept hSw hne14).w2; obtain ⟨z0, z1, z2, z3, z4, z5⟩ := (hx13.at_.kept hSw hne13).c6; go_simp; try (with_reducible rfl))
          try simp only [Act.put, tl1, tl2, tl3]
          refine wpAnyH_ready (rs := [11]) (by kernel_rfl) (by simp) ?_
          refine AllReadyH.cons (o := ⟨_, _, _, _, _, _⟩) rfl (fun K hK => ?_) AllReadyH.nil
          go_simp
          refine (most_any _ _ _ _ _ _ _ _ mb1 mb2 mb3 mb4).mono ?_
          rintro e V56 ⟨rfl, hb⟩
          go_wp2_with fail
          have hHeldN := hHeld.trans (Kept.all _ hb)
          have hvl := hvl.bel hb
          have hbc := hbc.trans (hb.mono hbc.size)
          refine hK.out _ _ ?_ (fun hHeld2 => ?_)
          · exact hHeldN
          clear hK K hHeld hHeldN hb; have hHeld := hHeld2; clear hHeld2
          try simp only [Act.put, tl1, tl2, tl3]
          refine tkH 12 ?_ rfl (Or.inl ⟨by rfl, ?_⟩) hHeld ?_
          rotate_left
          · (intro w _; go_simp; try (with_reducible rfl))
          try simp only [Act.put, tl1, tl2, tl3]
          refine wpAnyH_ready (rs := [23]) (by kernel_rfl) (by simp) ?_
          refine AllReadyH.cons (o := ⟨_, _, _, _, _, _⟩) rfl (fun K hK => ?_) AllReadyH.nil
          go_simp
          refine (least_any _ _ _ _ _ _ _ _ lb1 lb2 lb3 lb4).mono ?_
          rintro e V68 ⟨rfl, hb⟩
          go_wp2_with fail
          have hHeldN := hHeld.trans (Kept.all _ hb)
          have hvl := hvl.bel hb
          have hbc := hbc.trans (hb.mono hbc.size)
          refine hK.out _ _ ?_ (fun hHeld2 => ?_)
          · exact hHeldN
          clear hK K hHeld hHeldN hb; have hHeld := hHeld2; clear hHeld2
          try simp only [Act.put, tl1, tl2, tl3]
          refine tkH 24 ?_ rfl (Or.inl ⟨by rfl, ?_⟩) hHeld ?_
          rotate_left
          · (intro w _; go_simp; try (with_reducible rfl))
          try simp only [Act.put, tl1, tl2, tl3]
          refine tkH 25 ?_ rfl (Or.inl ⟨by rfl, ?_⟩) hHeld ?_
          rotate_left
          · (intro w _; go_simp; try (with_reducible rfl))
          try simp only [Act.put, tl1, tl2, tl3]
          refine wpAnyH_ready (rs := [26]) (by kernel_rfl) (by simp) ?_
          refine AllReadyH.cons (o := ⟨_, _, _, _, _, _⟩) rfl (fun K hK => ?_) AllReadyH.nil
          go_simp
          obtain ⟨b71, V71, eb71, ev71, r71, hb⟩ := mk_row (cells := Sp.cells) V68 #[.int .i64 (f.lo + a5 - mostF ⟨⟨a0, a1⟩, ⟨a2, a3⟩, ⟨a4, a5⟩⟩ f.lo), .int .i64 (f.hi + a4 - leastF ⟨⟨a0, a1⟩, ⟨a2, a3⟩, ⟨a4, a5⟩⟩ f.hi)] 51 [⟨f.lo + a5 - mostF ⟨⟨a0, a1⟩, ⟨a2, a3⟩, ⟨a4, a5⟩⟩ f.lo, f.hi + a4 - leastF ⟨⟨a0, a1⟩, ⟨a2, a3⟩, ⟨a4, a5⟩⟩ f.hi⟩] rfl
          rw [ev71.out, eb71.out]
          have hHeldN := hHeld.trans (Kept.all _ hb)
          have hvl := hvl.bel hb
          have hbc := hbc.trans (hb.mono hbc.size)
          refine hK.out _ _ ?_ (fun hHeld2 => ?_)
          · exact hHeldN
          clear hK K hHeld hHeldN hb; have hHeld := hHeld2; clear hHeld2
          try simp only [Act.put, tl1, tl2, tl3]
          refine wpAnyH_ready (rs := [27]) (by kernel_rfl) (by simp) ?_
          refine AllReadyH.cons (o := ⟨_, _, _, _, _, _⟩) rfl (fun K hK => ?_) AllReadyH.nil
          refine op_app (v := vl) (xs := LL) (ys := [⟨f.lo + a5 - mostF ⟨⟨a0, a1⟩, ⟨a2, a3⟩, ⟨a4, a5⟩⟩ f.lo, f.hi + a4 - leastF ⟨⟨a0, a1⟩, ⟨a2, a3⟩, ⟨a4, a5⟩⟩ f.hi⟩]) (n := 1) el_sp (.tmp 45) (.tmp 71) rfl rfl hvl rfl rfl r71 (by omega) (Nat.le_trans hbase hHeld.size) ?_
          intro vv V72 hown hg hat
          have hkg := hHeld.trans ((Kept.grown hg).mono fun b _ hb e => hb e.symm)
          refine hK.out _ _ ?_ (fun hHeld2 => ?_)
          · (try dsimp only); exact hkg
          clear hK K hHeld; have hHeld := hHeld2; clear hHeld2
          try simp only [Act.put, tl1, tl2, tl3]
          refine tkH 28 ?_ rfl (Or.inl ⟨by rfl, ?_⟩) hHeld ?_
          rotate_left
          · (intro w _; go_simp; try (with_reducible rfl))
          try simp only [Act.put, tl1, tl2, tl3]
          refine wpAnyH_done (by kernel_rfl) ?_ _
          go_wp2_with fail
          have hB14 := Hb.out.trans (hb134.mono Hb.out.size)
          exact ⟨⟨k + 1, vv, rfl, by go_num, by omega, by rw [Hstep.out]; exact hown, hB14.trans (hkg.below (fun b hb e => by have := (Hvl0.out.blockG e).1; omega) hB14.size)⟩, by simp [intOf]; omega⟩
        · obtain rfl : n = k := by omega
          rw [List.take_of_length_le (by rw [lostS_len, ← Hn.out]; exact Nat.le_refl _)] at hvl
          have hov := Hov.out.bel hb
          obtain ⟨Al, cl, rfl, hrl⟩ := hvl.rdn n (by rw [lostS_len, Hn.out])
          have Hvl := hide hvl; have Hov2 := hide hov
          have hBr := hB5.trans (hb.mono hB5.size)
          clear hvl hov hrl
          go_wp2_with fail
          refine bodyPost_ret (v := .tuple #[.slice Af (n + 1) cf, .slice Al n cl, .int .i64 0]) (by simp [results, Try.results52, go_sem]; try rfl) rfl ?_
          refine ⟨.slice Af (n + 1) cf, .slice Al n cl, by rw [E1.out], ?_, ?_, hBr⟩
          · simp only [flL, E1.out, HF.out]; exact Hov2.out.mono hB4.size
          · simp only [loL, E1.out, HF.out]; exact Hvl.out.mono hB5.size
  · have E1 := hide (show flErr g s l = gEnter g s l by simp [flErr, he])
    have He := hide he
    have hne : (gEnter g s l == 0) = false := by simpa using he
    have hne2 : (gEnter g s l != 0) = true := by simpa using he
    clear he
    go_enter Try.func52, Try.ntmps52
    go_wp2_with fail
    rw [ew1.out, e4.out]
    refine HE.out.mono ?_
    rintro e w2 ⟨rfl, hb2⟩
    go_wp2_with fail
    refine bodyPost_ret (v := .tuple #[.slice none 0 0, .slice none 0 0, .int .i64 (gEnter g s l)]) (by simp [results, Try.results52, go_sem]; try rfl) rfl ?_
    have hz : ¬ flErr g s l = 0 := by rw [E1.out]; exact He.out
    exact ⟨.slice none 0 0, .slice none 0 0, by rw [E1.out], by simp only [flL, if_neg hz]; exact Own.nil _ _ _ _ _, by simp only [loL, if_neg hz]; exact Own.nil _ _ _ _ _, hb1.trans (hb2.mono hb1.size)⟩
end Go.Proofs.Ytgklcilpohkpkaa
