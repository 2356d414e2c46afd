/- Gallery: search, Falls, Next, by contract. Gallery: Falls, by contract. Gallery: Next, by contract: a range over a map, in whatever order. -/
import Derived.Test.YtkmocikcohhdoaaH3
set_option linter.unusedVariables false
set_option linter.unusedSimpArgs false
namespace Go.Proofs.Ytkmocikcohhdoaa
open Go.RowKit Go.Shelf Go.Maps
attribute [local go_sem] ite_min ite_max
theorem anyBad_one (m : Int) (t : Sp) : (!(anyBad m [t])) = Sp.ok 0 m t := by simp [anyBad, spOk_bad]
theorem okS_fine {m : Int} {t : Sp} (h : Sp.ok 0 m t = true) : t.fine m := by
  have := Sp.ok_bd h
  exact ⟨this.1, this.2.1, this.2.2⟩
def SearchPost (g : List Rc) (s : Sp) (l : List Ga) (t : Sp) (w : World) (e : Ending) (w' : World) : Prop :=
  (falE g s l t = 0 ∧ ∃ b V, e = .returned (.tuple #[.map (some b), .int .i64 0]) ∧ w.heap.size ≤ b ∧ MpV Try.prog 3 w' b g.length (falM g s l t V g.length) (falN g s l t g.length).length ∧ RowsV w' (b + 1) g s l t V g.length ∧ Below w.heap.size w w') ∨
  (falE g s l t ≠ 0 ∧ e = .returned (.tuple #[.map none, .int .i64 (falE g s l t)]) ∧ Below w.heap.size w w')
theorem falE_parts {g : List Rc} {s : Sp} {l : List Ga} {t : Sp} (h : falE g s l t = 0) : gEnter g s l = 0 ∧ Sp.ok 0 1000000 t = true ∧ falN g s l t g.length ≠ [] := by
  unfold falE at h
  split at h
  · rename_i h1
    split at h
    · rename_i h2
      split at h
      · omega
      · exact ⟨h1, h2, by assumption⟩
    · omega
  · rename_i h1; exact absurd h h1
set_option maxHeartbeats 4000000 in
set_option maxRecDepth 100000 in
theorem gsearch_any (A A1 : Option Addr) (g : List Rc) (s : Sp) (l : List Ga) (t : Sp) (n c n1 c1 : Nat) (w : World) (hn : n = g.length) (hm : n ≤ 9223372036854775807) (hx : Rd w w.heap.size Rc.cells A g)
    (hnl : n1 = l.length) (hm1 : n1 ≤ 9223372036854775807) (hx1 : Rd w w.heap.size Ga.cells A1 l) :
    Calls Try.prog 76 #[.slice A n c, .agg #[.int .i64 s.lo, .int .i64 s.hi], .slice A1 n1 c1, .agg #[.int .i64 t.lo, .int .i64 t.hi]] w (SearchPost g s l t w) := by
  obtain ⟨b5, w1, e5, ew1, hx5, hb1, hz1⟩ := mk_bx w #[.int .i64 s.lo, .int .i64 s.hi] 24
  obtain ⟨b7, w2, e7, ew2, hx7, hb2, hz2⟩ := mk_bx w1 #[.int .i64 t.lo, .int .i64 t.hi] 24
  have e57 : b5 + 1 = b7 := by have := e7.out; omega
  have hB2 := hb1.trans (hb2.mono hb1.size)
  replace hx5 := hx5.bel hb2
  have Hn := hide hn; have Hn1 := hide hnl; have Hx : Hid (Rd w2 w2.heap.size Rc.cells A g) := hide ((hx.below hB2).more hB2.size); have Hx1 : Hid (Rd w2 w2.heap.size Ga.cells A1 l) := hide ((hx1.below hB2).more hB2.size)
  have HE := hide (enter_any A A1 g s.lo s.hi l n c n1 c1 w2 hn hm Hx.out hnl hm1 Hx1.out)
  obtain ⟨q0, q1, _, _⟩ := hx5.w2
  clear hn hnl hx hx1 hz1 hz2
  by_cases he : gEnter g s l = 0
  · obtain ⟨hok, hg12, hl30, hfine, hs, hga, hgf⟩ := enter_parts he
    have HE0 := hide (show Calls Try.prog 51 #[.slice A n c, .agg #[.int .i64 s.lo, .int .i64 s.hi], .slice A1 n1 c1] w2 fun e w' => e = .returned (.int .i64 0) ∧ Below w2.heap.size w2 w' by have := HE.out; rw [he] at this; exact this)
    have hg1 : 1 ≤ n := by
      simp only [gOk, inB, Bool.and_eq_true, decide_eq_true_eq] at hok
      rw [Hn.out]; omega
    have He := hide he
    have hn12 : n ≤ 12 := by rw [Hn.out]; exact hg12
    have hn30 : n1 ≤ 30 := by rw [Hn1.out]; exact hl30
    clear he HE hok
    go_enter Try.func76, Try.ntmps76
    go_wp2_with fail
    rw [ew1.out, e5.out, e57, ew2.out]
    refine HE0.out.mono ?_
    rintro e w3 ⟨rfl, hb3⟩
    obtain ⟨p0, p1, _, _⟩ := (hx7.bel hb3).w2
    obtain ⟨b20, w4, e20, ew4, hr4, hb4⟩ := mk_row (cells := Sp.cells) w3 #[.int .i64 t.lo, .int .i64 t.hi] 24 [t] rfl
    have hB3 := hB2.trans (hb3.mono hB2.size)
    have hB4 := hb3.trans (hb4.mono hb3.size)
    clear q0 q1
    go_wp2_with fail
    rw [ew4.out, e20.out]
    refine (proper_any 1000000 _ [t] 1 1 w4 rfl (by omega) hr4).mono ?_
    rintro e w5 ⟨rfl, hb5⟩
    rw [anyBad_one]
    have hB5 := hB4.trans (hb5.mono hB4.size)
    obtain ⟨p0, p1, _, _⟩ := (hx7.bel hB5).w2
    obtain ⟨q0, q1, _, _⟩ := (hx5.bel hB5).w2
    cases ht : Sp.ok 0 1000000 t
    · have E1 := hide (show falE g s l t = 2 by unfold falE; rw [if_pos He.out, if_neg (by rw [ht]; decide)])
      clear ht
      go_wp2_with fail
      go_ret2
      exact .inr ⟨by rw [E1.out]; decide, by rw [E1.out]; rfl, hB2.trans (hB5.mono hB2.size)⟩
    · have Ht := hide (okS_fine ht)
      have E0 : falE g s l t = if falN g s l t g.length = [] then 6 else 0 := by unfold falE; rw [if_pos He.out, if_pos ht]
      have E1 := hide E0
      clear ht E0
      go_wp2_with fail
      refine (suspects_any A A1 g s l t n c n1 c1 w5 Hn.out (by omega) hg1 ((Hx.out.below hB5).more hB5.size) Hn1.out (by omega) ((Hx1.out.below hB5).more hB5.size) hfine hs Ht.out (by rw [Hn.out]; exact hga) hgf).mono ?_
      rintro e w6 ⟨bm, V, rfl, hbm, hM, hR, hb6⟩
      have hB6 := hB5.trans (hb6.mono hB5.size)
      have HM := hide hM
      clear hM
      have hsz : w.heap.size ≤ bm := by have := hB2.size; have := hB5.size; omega
      by_cases hz : falN g s l t g.length = []
      · have hl : (falN g s l t g.length).length = 0 := by rw [hz]; rfl
        have E2 := hide (E1.out.trans (if_pos hz))
        rw [hl] at HM
        clear hz
        go_wp2_with (at_len; refine wpList_mapLenV rfl (.tmp 28) rfl Try.underlying123 HM.out rfl ?_)
        go_ret2
        exact .inr ⟨by rw [E2.out]; decide, by rw [E2.out]; rfl, hB2.trans (hB6.mono hB2.size)⟩
      · have hl : (falN g s l t g.length).length ≠ 0 := fun h => hz (List.length_eq_zero_iff.1 h)
        have E2 := hide (E1.out.trans (if_neg hz))
        clear hz
        have hl2 : ¬ ((falN g s l t g.length).length : Int) = 0 := by omega
        go_wp2_with (at_len; refine wpList_mapLenV rfl (.tmp 28) rfl Try.underlying123 HM.out rfl ?_)
        go_ret2
        exact .inl ⟨E2.out, bm, V, rfl, hsz, HM.out, hR, hB2.trans (hB6.mono hB2.size)⟩
  · have E1 := hide (show falE g s l t = gEnter g s l by unfold falE; rw [if_neg he])
    have He := hide he
    have hne : (gEnter g s l == 0) = false := by simpa using he
    have hne2 : (gEnter g s l != 0) = true := by simpa using he
    clear he
    go_enter Try.func76, Try.ntmps76
    go_wp2_with fail
    rw [ew1.out, e5.out, e57, ew2.out]
    refine HE.out.mono ?_
    rintro e w3 ⟨rfl, hb3⟩
    go_wp2_with fail
    go_ret2
    exact .inr ⟨by rw [E1.out]; exact He.out, by rw [E1.out]; rfl, hB2.trans (hb3.mono hB2.size)⟩
end Go.Proofs.Ytkmocikcohhdoaa
namespace Go.Proofs.Ytkmocikcohhdoaa
open Go.RowKit Go.Shelf Go.Maps
attribute [local go_sem] ite_min ite_max
theorem el_int : ElLaw Try.prog 26 3 1 8 icell := elLaw_of Try.underlying26 info_int rfl (by omega) (fun _ => rfl) icell_one (by omega)
def FallsPost (g : List Rc) (s : Sp) (l : List Ga) (t : Sp) (w : World) (e : Ending) (w' : World) : Prop :=
  ∃ v, e = .returned (.tuple #[v, .bool (falW g s l t), .int .i64 (falE g s l t)]) ∧ Own w' w.heap.size 3 1 icell v (falL g s l t) ∧ Below w.heap.size w w'
theorem falM_at {g : List Rc} {s : Sp} {l : List Ga} {t : Sp} {V : Nat → Value} {n k : Nat} (hk : k < n) : falM g s l t V n (k : Int) = if (fitF g s l t k).isSome = true then some (V k) else none := by
  unfold falM
  simp only [Int.toNat_natCast]
  congr 1
  simp only [eq_iff_iff]
  exact ⟨fun h => h.2.2, fun h => ⟨by omega, hk, h⟩⟩
theorem zero_spans (w : World) : (zeroValue 37).run Try.prog w = .ok (.slice none 0 0) w := by kernel_rfl
set_option maxHeartbeats 4000000 in
set_option maxRecDepth 100000 in
theorem falls_any (A A1 : Option Addr) (g : List Rc) (s : Sp) (l : List Ga) (t : Sp) (n c n1 c1 : Nat) (w : World) (hn : n = g.length) (hm : n ≤ 9223372036854775807) (hx : Rd w w.heap.size Rc.cells A g)
    (hnl : n1 = l.length) (hm1 : n1 ≤ 9223372036854775807) (hx1 : Rd w w.heap.size Ga.cells A1 l) :
    Calls Try.prog 27 #[.slice A n c, .agg #[.int .i64 s.lo, .int .i64 s.hi], .slice A1 n1 c1, .agg #[.int .i64 t.lo, .int .i64 t.hi]] w (FallsPost g s l t w) := by
  obtain ⟨b5, w1, e5, ew1, hx5, hb1, hz1⟩ := mk_bx w #[.int .i64 s.lo, .int .i64 s.hi] 24
  obtain ⟨b7, w2, e7, ew2, hx7, hb2, hz2⟩ := mk_bx w1 #[.int .i64 t.lo, .int .i64 t.hi] 24
  have e57 : b5 + 1 = b7 := by have := e7.out; omega
  have hB2 := hb1.trans (hb2.mono hb1.size)
  replace hx5 := hx5.bel hb2
  have Hn := hide hn; have Hn1 := hide hnl; have Hx : Hid (Rd w2 w2.heap.size Rc.cells A g) := hide ((hx.below hB2).more hB2.size); have Hx1 : Hid (Rd w2 w2.heap.size Ga.cells A1 l) := hide ((hx1.below hB2).more hB2.size)
  have HE := hide (gsearch_any A A1 g s l t n c n1 c1 w2 hn hm Hx.out hnl hm1 Hx1.out)
  obtain ⟨q0, q1, _, _⟩ := hx5.w2
  obtain ⟨p0, p1, _, _⟩ := hx7.w2
  clear hn hnl hx hx1 hz1 hz2
  by_cases he : falE g s l t = 0
  · obtain ⟨he1, ht1, _⟩ := falE_parts he
    obtain ⟨hok, hg12, hl30, hfine, hs, hga, hgf⟩ := enter_parts he1
    have He := hide he; have Hfine := hide hfine; have Hbd := hide (rdS_bd n l hgf); have Hs := hide hs; have Hga : Hid (gaIn n l) := hide (by rw [Hn.out]; exact hga)
    have hn12 : n ≤ 12 := by rw [Hn.out]; exact hg12
    have hn20 : n ≤ 20 := by omega
    have hn1 : n1 ≤ 100 := by have := Hn1.out; omega
    have eF : flowsF g (rdS n l) s = fitS g l s := by rw [Hn.out]; rfl
    have HF := hide eF
    clear he he1 ht1 hok hfine hs hga hgf eF
    go_enter Try.func27, Try.ntmps27
    go_wp2_with fail
    rw [ew1.out, e5.out, e57, ew2.out]
    refine HE.out.mono ?_
    rintro e w3 (⟨_, bm, V, rfl, hbm, hM, hR, hb3⟩ | ⟨hne, _⟩)
    rotate_left
    · exact absurd He.out hne
    have HM := hide hM; have Hbm := hide hbm
    rw [← Hn.out] at HM
    clear hM hbm q0 q1 p0 p1 hR
    have hz := zero_spans
    have Hz := hide hz
    clear hz
    go_wp2_with fail
    go_loopw [8, 28] (fun a i wr => ∃ (k : Nat) (va : Value), va = a ∧ i = .int .i64 k ∧ k ≤ n ∧ Own wr w3.heap.size 3 1 icell va ((falN g s l t k).map Int.ofNat) ∧ Below w3.heap.size w3 wr) (fun _ i _ => n - (intOf i).toNat)
    case atStart => exact ⟨0, _, rfl, rfl, by omega, Own.nil _ _ _ _ _, Below.refl _ _⟩
    case round =>
      obtain ⟨k, va, rfl, rfl, hk, hva, hb⟩ := hrel
      by_cases hlt : k < n
      · have HMr := hide (HM.out.bel hb)
        have hok : okI (k : Int) := by unfold okI; omega
        have hat := falM_at (g := g) (s := s) (l := l) (t := t) (V := V) hlt
        have Hok := hide hok; have Hat := hide hat; have Hva := hide hva; have Hb := hide hb
        have hva0 := fun q hq => (hva.blockG (g := q) hq).1
        clear hok hat hva hb
        cases hF : (fitF g s l t k).isSome
        · have Hnone : Hid (falM g s l t V n (k : Int) = none) := hide (by rw [Hat.out, hF]; rfl)
          have Hs2 := hide (show falN g s l t (k + 1) = falN g s l t k by rw [falN_succ, hF]; rfl)
          clear hF
          go_wp2_with (at_lookup; refine wpList_mapLookV rfl (.tmp 32) (.tmp 33) rfl Try.underlying3 Try.underlying123 (Hz.out _) HMr.out rfl k rfl Hok.out ?_; rw [Hnone.out])
          exact ⟨⟨k + 1, va, rfl, by go_num, by omega, by rw [Hs2.out]; exact Hva.out, Hb.out⟩, by simp [intOf]; omega⟩
        · have Hsome : Hid (falM g s l t V n (k : Int) = some (V k)) := hide (by rw [Hat.out, hF]; rfl)
          have Hs2 := hide (show falN g s l t (k + 1) = falN g s l t k ++ [k] by rw [falN_succ, hF]; rfl)
          obtain ⟨b40, w40, e40, ew40, hr40, hb40⟩ := mk_row (cells := icell) wr #[.int .i64 k] 3 [(k : Int)] rfl
          have Hva4 := hide (Hva.out.bel hb40); have Hr40 := hide hr40
          have hlen : ((falN g s l t k).map Int.ofNat).length + 1 ≤ 1000000 := by have := falN_len (g := g) (s := s) (l := l) (t := t) k; rw [List.length_map]; omega
          have hbs : w3.heap.size ≤ w40.heap.size := Nat.le_trans Hb.out.size hb40.size
          clear hF hr40
          go_wp2_with (first | (at_lookup; refine wpList_mapLookV rfl (.tmp 32) (.tmp 33) rfl Try.underlying3 Try.underlying123 (Hz.out _) HMr.out rfl k rfl Hok.out ?_; rw [Hsome.out]) | (at_builtin; rw [ew40.out, e40.out]; refine wpList_app (v := va) (xs := (falN g s l t k).map Int.ofNat) (ys := [(k : Int)]) (n := 1) el_int rfl (.tmp 38) (.tmp 40) rfl rfl Hva4.out rfl rfl Hr40.out hlen hbs ?_; intro vv wv hown1 hg1 hat1))
          have hB40 := Hb.out.trans (hb40.mono Hb.out.size)
          exact ⟨⟨k + 1, vv, rfl, by go_num, by omega, by rw [Hs2.out, List.map_append]; exact hown1, hB40.trans ((Kept.grown hg1).below (fun b hb e => by have := hva0 b e.symm; omega) hB40.size)⟩, by simp [intOf]; omega⟩
      · obtain rfl : n = k := by omega
        have hBr := hb3.trans (hb.mono hb3.size)
        have HBr := hide hBr
        have hvl := hva
        have hx5r := hx5.bel hBr
        clear hva hb hBr
        go_wp2_with fail
        refine wp_region_held_drew (S := (fun W => Below wr.heap.size wr W)) (by kernel_rfl) (by (try dsimp only); exact (Below.refl _ _).drew) (fun hHeld => ?_)
        generalize World.drew wr = Wd11 at hHeld ⊢
        have hvl := hvl.bel hHeld
        have hbc := Below.refl Wd11.heap.size Wd11
        refine wpAnyH_take (i := 0) (oi := ⟨_, _, _, _, _, _⟩) (v := ?_) rfl (by kernel_rfl) (by kernel_rfl) (by kernel_rfl) (fun _ _ _ h => h) (Or.inl ⟨by rfl, ?_⟩) hHeld ?_
        rotate_left
        · (intro w hSw; (try dsimp only at hSw); go_simp; try (with_reducible rfl))
        try simp only [Act.put, List.setIfInBounds_toArray, List.set_cons_zero, List.set_cons_succ]
        refine wpAnyH_take (i := 1) (oi := ⟨_, _, _, _, _, _⟩) (v := ?_) rfl (by kernel_rfl) (by kernel_rfl) (by kernel_rfl) (fun _ _ _ h => h) (Or.inl ⟨by rfl, ?_⟩) hHeld ?_
        rotate_left
        · (intro w hSw; (try dsimp only at hSw); go_simp; try (with_reducible rfl))
        try simp only [Act.put, List.setIfInBounds_toArray, List.set_cons_zero, List.set_cons_succ]
        refine wpAnyH_take (i := 3) (oi := ⟨_, _, _, _, _, _⟩) (v := ?_) rfl (by kernel_rfl) (by kernel_rfl) (by kernel_rfl) (fun _ _ _ h => h) (Or.inl ⟨by rfl, ?_⟩) hHeld ?_
        rotate_left
        · (intro w hSw; (try dsimp only at hSw); obtain ⟨q0, q1, _, _⟩ := (hx5r.bel hSw).w2; go_simp; try (with_reducible rfl))
        try simp only [Act.put, List.setIfInBounds_toArray, List.set_cons_zero, List.set_cons_succ]
        refine wpAnyH_ready (rs := [2]) (by kernel_rfl) (by simp) ?_
        refine AllReadyH.cons (o := ⟨_, _, _, _, _, _⟩) rfl (fun K hK => ?_) AllReadyH.nil
        go_simp
        refine (open_any A A1 g l n c n1 c1 _ Hn.out hn20 ((Hx.out.below (HBr.out.trans (hHeld.mono HBr.out.size))).more (HBr.out.trans (hHeld.mono HBr.out.size)).size) Hn1.out hn1 ((Hx1.out.below (HBr.out.trans (hHeld.mono HBr.out.size))).more (HBr.out.trans (hHeld.mono HBr.out.size)).size) Hga.out).mono ?_
        rintro e V46 ⟨Aa, ca, gb, cb, rfl, hoa, hob, hb⟩
        go_wp2_with fail
        have hHeldN := hHeld.trans (hb.mono hHeld.size)
        have hvl := hvl.bel hb
        have hbc := hbc.trans (hb.mono hbc.size)
        refine hK.out _ _ ?_ (fun hHeld2 => ?_)
        · exact hHeldN
        clear hK K hHeld hHeldN hb; have hHeld := hHeld2; clear hHeld2
        try simp only [Act.put, List.setIfInBounds_toArray, List.set_cons_zero, List.set_cons_succ]
        refine wpAnyH_ready (rs := [4]) (by kernel_rfl) (by simp) ?_
        refine AllReadyH.cons (o := ⟨_, _, _, _, _, _⟩) rfl (fun K hK => ?_) AllReadyH.nil
        go_simp
        refine (fit_any Aa (some ⟨gb, 0, none⟩) n ca cb g (rdS n l) s _ hoa.rdw hob.rdw Hn.out hn20 (rdS_len _ _) Hfine.out Hbd.out Hs.out).mono ?_
        rintro e V48 ⟨vf, rfl, hov, hb⟩
        go_wp2_with fail
        have hHeldN := hHeld.trans (hb.mono hHeld.size)
        have hvl := hvl.bel hb
        have hoa := hoa.bel hb
        have hob := hob.bel hb
        have hbc := hbc.trans (hb.mono hbc.size)
        refine hK.out _ _ ?_ (fun hHeld2 => ?_)
        · exact hHeldN
        clear hK K hHeld hHeldN hb; have hHeld := hHeld2; clear hHeld2
        try simp only [Act.put, List.setIfInBounds_toArray, List.set_cons_zero, List.set_cons_succ]
        refine wpAnyH_take (i := 5) (oi := ⟨_, _, _, _, _, _⟩) (v := ?_) rfl (by kernel_rfl) (by kernel_rfl) (by kernel_rfl) (fun _ _ _ h => h) (Or.inl ⟨by rfl, ?_⟩) hHeld ?_
        rotate_left
        · (intro w hSw; (try dsimp only at hSw); go_simp; try (with_reducible rfl))
        try simp only [Act.put, List.setIfInBounds_toArray, List.set_cons_zero, List.set_cons_succ]
        refine wpAnyH_take (i := 6) (oi := ⟨_, _, _, _, _, _⟩) (v := ?_) rfl (by kernel_rfl) (by kernel_rfl) (by kernel_rfl) (fun _ _ _ h => h) (Or.inl ⟨by rfl, ?_⟩) hHeld ?_
        rotate_left
        · (intro w hSw; (try dsimp only at hSw); go_simp; try (with_reducible rfl))
        try simp only [Act.put, List.setIfInBounds_toArray, List.set_cons_zero, List.set_cons_succ]
        refine wpAnyH_take (i := 7) (oi := ⟨_, _, _, _, _, _⟩) (v := ?_) rfl (by kernel_rfl) (by kernel_rfl) (by kernel_rfl) (fun _ _ _ h => h) (Or.inl ⟨by rfl, ?_⟩) hHeld ?_
        rotate_left
        · (intro w hSw; (try dsimp only at hSw); go_simp; try (with_reducible rfl))
        try simp only [Act.put, List.setIfInBounds_toArray, List.set_cons_zero, List.set_cons_succ]
        refine wpAnyH_take (i := 8) (oi := ⟨_, _, _, _, _, _⟩) (v := ?_) rfl (by kernel_rfl) (by kernel_rfl) (by kernel_rfl) (fun _ _ _ h => h) (Or.inl ⟨by rfl, ?_⟩) hHeld ?_
        rotate_left
        · (intro w hSw; (try dsimp only at hSw); go_simp; try (with_reducible rfl))
        try simp only [Act.put, List.setIfInBounds_toArray, List.set_cons_zero, List.set_cons_succ]
        refine wpAnyH_done (by kernel_rfl) ?_ _
        have Hvl := hide hvl
        clear hvl hov hoa hob
        obtain ⟨Al, cl, rfl, hrl⟩ := Hvl.out.rdn _ rfl
        clear hrl
        go_wp2_with fail
        refine bodyPost_ret (v := .tuple #[.slice Al ((falN g s l t n).map Int.ofNat).length cl, .bool (flowsF g (rdS n l) s).isSome, .int .i64 0]) (by simp [results, Try.results27, go_sem]; try rfl) rfl ?_
        refine ⟨.slice Al ((falN g s l t n).map Int.ofNat).length cl, by rw [He.out, HF.out]; simp only [falW, He.out, if_true], ?_, hB2.trans ((HBr.out.trans (hHeld.mono HBr.out.size)).mono hB2.size)⟩
        unfold falL
        rw [if_pos He.out, ← Hn.out]
        exact Hvl.out.mono (Nat.le_trans hB2.size hb3.size)
  · have He := hide he
    have hne : (falE g s l t == 0) = false := by simpa using he
    have hne2 : (falE g s l t != 0) = true := by simpa using he
    clear he
    go_enter Try.func27, Try.ntmps27
    go_wp2_with fail
    rw [ew1.out, e5.out, e57, ew2.out]
    refine HE.out.mono ?_
    rintro e w3 (⟨he, _⟩ | ⟨_, rfl, hb3⟩)
    · exact absurd he He.out
    go_wp2_with fail
    refine bodyPost_ret (v := .tuple #[.slice none 0 0, .bool false, .int .i64 (falE g s l t)]) (by simp [results, Try.results27, go_sem]; try rfl) rfl ?_
    exact ⟨.slice none 0 0, by simp only [falW, if_neg He.out], by simp only [falL, if_neg He.out]; exact Own.nil _ _ _ _ _, hB2.trans (hb3.mono hB2.size)⟩
end Go.Proofs.Ytkmocikcohhdoaa
namespace Go.Proofs.Ytkmocikcohhdoaa
open Go.RowKit Go.Shelf Go.Maps
attribute [local go_sem] ite_min ite_max
theorem perm_step {left : Int → Bool} {x : Nat} : ∀ {l : List Nat}, l.Nodup → x ∈ l → left (x : Int) = true → (l.filter fun i : Nat => !(left (i : Int) && !decide ((i : Int) = (x : Int)))).Perm (x :: l.filter fun i : Nat => !left (i : Int))
  | [], _, h, _ => by cases h
  | y :: l, hnd, hx, hl => by
    obtain ⟨hy, hnd'⟩ := List.nodup_cons.1 hnd
    by_cases e : y = x
    · subst e
      have h1 : (l.filter fun i : Nat => !(left (i : Int) && !decide ((i : Int) = (y : Int)))) = l.filter fun i : Nat => !left (i : Int) :=
        List.filter_congr fun i hi => by
          have : ¬ (i : Int) = (y : Int) := fun e => hy (by have : i = y := by omega
                                                            exact this ▸ hi)
          simp [this]
      rw [List.filter_cons, if_pos (by simp), h1, List.filter_cons, if_neg (by simp [hl])]
    · have hx' : x ∈ l := by
        rcases List.mem_cons.1 hx with h | h
        · exact absurd h.symm e
        · exact h
      have ih := perm_step (left := left) hnd' hx' hl
      have e2 : ¬ (y : Int) = (x : Int) := by omega
      cases hy2 : left (y : Int)
      · rw [List.filter_cons, if_pos (by simp [hy2]), List.filter_cons, if_pos (by simp [hy2])]
        exact (ih.cons y).trans (List.Perm.swap x y _)
      · rw [List.filter_cons, if_neg (by simp [hy2, e2]), List.filter_cons, if_neg (by simp [hy2])]
        exact ih
section
variable {g : List Rc} {s : Sp} {l : List Ga} {t : Sp} {V : Nat → Value} {k n j : Nat} {w : World} {base : Nat}
theorem falN_nodup : (falN g s l t k).Nodup := List.nodup_range.filter _
theorem falM_inv {x : Int} {c : Value} (h : falM g s l t V n x = some c) : ∃ j : Nat, j < n ∧ x = (j : Int) ∧ (fitF g s l t j).isSome = true ∧ c = V j := by
  unfold falM at h
  split at h
  · rename_i h1
    injection h with h
    exact ⟨x.toNat, h1.2.1, by omega, h1.2.2, h.symm⟩
  · cases h
/-- The flow at shaft k with a fall in reach i. -/
def flowK (g : List Rc) (s : Sp) (l : List Ga) (t : Sp) (k i : Nat) : Sp := ((fitF g s l t i).getD []).getD k allS
theorem hereK_eq : hereK g s l t k = (falN g s l t g.length).map (flowK g s l t k) := rfl
theorem fitF_len {F : List Sp} (h : fitF g s l t j = some F) : F.length = g.length + 1 := by
  unfold fitF fitS at h
  rw [flowsF_len _ _ _ _ h, fallS_len]
theorem rowV (hR : RowsV w base g s l t V n) (hn : n = g.length) (hj : j < n) (hs : (fitF g s l t j).isSome = true) (hk : k ≤ n) : ∃ q cq f, V j = .slice (some ⟨q, 0, none⟩) (n + 1) cq ∧ base ≤ q ∧ q < w.heap.size ∧ f = flowK g s l t k j ∧ w.cell? ⟨q, k * 2, none⟩ = some (.int .i64 f.lo) ∧ w.cell? ⟨q, k * 2 + 1, none⟩ = some (.int .i64 f.hi) := by
  obtain ⟨F, hF⟩ := Option.isSome_iff_exists.1 hs
  have hlen := fitF_len hF
  have h := hR j hj hs
  rw [hF] at h
  simp only [Option.getD_some] at h
  have hl : F.length = n + 1 := by rw [hlen, hn]
  obtain ⟨q, cq, hv, hq1, hq2⟩ := h.blkn hl (by omega)
  rw [hv] at h
  have hf : F[k]? = some F[k] := List.getElem?_eq_getElem (by omega)
  obtain ⟨d0, d1, _, _⟩ := own_sp h hf hl.symm
  refine ⟨q, cq, F[k], hv, hq1, hq2, ?_, d0, d1⟩
  unfold flowK
  rw [hF, Option.getD_some, List.getD_eq_getElem?_getD, hf]; rfl
end
def NextPost (g : List Rc) (s : Sp) (l : List Ga) (t : Sp) (w : World) (e : Ending) (w' : World) : Prop :=
  e = .returned (.tuple #[.int .i64 ((nextS g s l t).1 : Int), .int .i64 ((nextS g s l t).2 : Int), .int .i64 (falE g s l t)]) ∧ Below w.heap.size w w'
set_option maxHeartbeats 4000000 in
set_option maxRecDepth 100000 in
theorem next_any (A A1 : Option Addr) (g : List Rc) (s : Sp) (l : List Ga) (t : Sp) (n c n1 c1 : Nat) (w : World) (hn : n = g.length) (hm : n ≤ 9223372036854775807) (hx : Rd w w.heap.size Rc.cells A g)
    (hnl : n1 = l.length) (hm1 : n1 ≤ 9223372036854775807) (hx1 : Rd w w.heap.size Ga.cells A1 l) :
    Calls Try.prog 29 #[.slice A n c, .agg #[.int .i64 s.lo, .int .i64 s.hi], .slice A1 n1 c1, .agg #[.int .i64 t.lo, .int .i64 t.hi]] w (NextPost g s l t w) := by
  obtain ⟨b5, w1, e5, ew1, hx5, hb1, hz1⟩ := mk_bx w #[.int .i64 s.lo, .int .i64 s.hi] 24
  obtain ⟨b7, w2, e7, ew2, hx7, hb2, hz2⟩ := mk_bx w1 #[.int .i64 t.lo, .int .i64 t.hi] 24
  have e57 : b5 + 1 = b7 := by have := e7.out; omega
  have hB2 := hb1.trans (hb2.mono hb1.size)
  replace hx5 := hx5.bel hb2
  have Hn := hide hn; have Hn1 := hide hnl; have Hx : Hid (Rd w2 w2.heap.size Rc.cells A g) := hide ((hx.below hB2).more hB2.size); have Hx1 : Hid (Rd w2 w2.heap.size Ga.cells A1 l) := hide ((hx1.below hB2).more hB2.size)
  have HE := hide (gsearch_any A A1 g s l t n c n1 c1 w2 hn hm Hx.out hnl hm1 Hx1.out)
  obtain ⟨q0, q1, _, _⟩ := hx5.w2
  obtain ⟨p0, p1, _, _⟩ := hx7.w2
  clear hn hnl hx hx1 hz1 hz2
  by_cases he : falE g s l t = 0
  · obtain ⟨he1, ht1, _⟩ := falE_parts he
    obtain ⟨hok, hg12, hl30, hfine, hs, hga, hgf⟩ := enter_parts he1
    have He := hide he
    have hn12 : n ≤ 12 := by rw [Hn.out]; exact hg12
    clear he he1 ht1 hok hfine hs hga hgf
    go_enter Try.func29, Try.ntmps29
    go_wp2_with fail
    rw [ew1.out, e5.out, e57, ew2.out]
    refine HE.out.mono ?_
    rintro e w3 (⟨_, bm, V, rfl, hbm, hM, hR, hb3⟩ | ⟨hne, _⟩)
    rotate_left
    · exact absurd He.out hne
    have HM := hide hM; have HR := hide hR
    rw [← Hn.out] at HM HR
    have hlenN : (falN g s l t n).length ≤ 12 := Nat.le_trans (falN_len n) hn12
    have lbm : bm < w3.heap.size := hM.lt
    clear hM q0 q1 p0 p1 hR hbm
    go_wp2_with (at_len; refine wpList_mapLenV rfl (.tmp 28) rfl Try.underlying123 HM.out rfl ?_)
    go_loopw [8, 9, 34] (fun a d i wr => ∃ k : Nat, a = .int .i64 ((nextGo g s l t k).1 : Int) ∧ d = .int .i64 ((nextGo g s l t k).2 : Int) ∧ i = .int .i64 k ∧ k ≤ n + 1 ∧ Below w3.heap.size w3 wr) (fun _ _ i _ => n + 1 - (intOf i).toNat)
    case atStart => exact ⟨0, rfl, by rw [show (nextGo g s l t 0).2 = (falN g s l t n).length + 1 by rw [Hn.out]; rfl]; rfl, rfl, by omega, Below.refl _ _⟩
    case round =>
      obtain ⟨k, rfl, rfl, rfl, hk, hb⟩ := hrel
      obtain ⟨hg1, hg2⟩ := nextGo_le (g := g) (s := s) (l := l) (t := t) k
      rw [← Hn.out] at hg1
      by_cases hlt : k ≤ n
      · have hkn : (k : Int) < (n : Int) + 1 := by omega
        have HMr := hide (HM.out.bel hb)
        have Hb := hide hb
        obtain ⟨wo, rfl⟩ : ∃ wo, wo = wr := ⟨wr, rfl⟩
        clear hb
        go_wp2_with (at_range; refine wpList_mapRangeV rfl (.tmp 37) rfl Try.underlying3 Try.underlying123 HMr.out rfl ?_; intro w4 hr4 hb4 hz4)
        go_frame
        obtain ⟨r, hr⟩ : ∃ r, r = wo.heap.size := ⟨_, rfl⟩
        rw [← hr] at hr4 hz4 ⊢
        have hB4 := Hb.out.trans (hb4.mono Hb.out.size)
        have hrs : w3.heap.size ≤ r := by have := Hb.out.size; omega
        have Hr4 := hide hr4; have Hr := hide hr
        clear hr4 hr
        go_loopw [13] (fun h wr => ∃ (left : Int → Bool) (cnt : Nat) (vh : Value) (hs : List Sp), vh = h ∧ Hid (MpR Try.prog 3 wr bm r n (falM g s l t V n) left cnt) ∧ Hid (∀ j, left j = true → (falM g s l t V n j).isSome = true) ∧ Hid (Own wr w4.heap.size 24 2 Sp.cells vh hs) ∧ Hid (hs.Perm (((falN g s l t n).filter fun i : Nat => !left (i : Int)).map (flowK g s l t k))) ∧ Below w3.heap.size w3 wr ∧ w4.heap.size ≤ wr.heap.size) (fun _ wr => wr.rangeLeft bm r)
        case atStart =>
          refine ⟨_, _, _, [], rfl, Hr4, hide (fun j h => h), hide (Own.nil _ _ _ _ _), hide ?_, hB4, Nat.le_refl _⟩
          rw [List.filter_eq_nil_iff.2 (fun i hi => ?_)]
          · exact List.Perm.refl _
          · have h2 := mem_falN.1 hi
            rw [falM_at h2.1, if_pos h2.2]; simp
        case round =>
          obtain ⟨left, cnt, vh, hs, rfl, HMR, Hleft, Hown, Hperm, hb, hsz⟩ := hrel
          have hlenh : hs.length ≤ 12 := by
            rw [Hperm.out.length_eq, List.length_map]
            exact Nat.le_trans (List.length_filter_le _ _) hlenN
          go_wp2_with (first | (at_next; go_loud (refine wpList_mapNextV rfl (.tmp 38) rfl Try.underlying3 rfl HMR.out ?_ ?_ Hleft.out); go_loud (rotate_left); go_loud (intro x cv w5 cnt5 hlx hfx hrg5 hlt5 hg5 hs5 hen5); go_loud (obtain ⟨j, hj, hxj, hsj, hcv⟩ := falM_inv hfx); go_loud (obtain ⟨q, cq, f, hVj, hq1, hq2, hfk, d0, d1⟩ := rowV HR.out Hn.out hj hsj hlt); go_loud (rw [hVj] at hcv); go_loud (subst hcv); go_loud (subst hxj); go_loud (have hk5 := Kept.grown hg5); go_loud (have hB5 := hb.trans (hk5.below (fun b hb e => by simp at e; omega) hb.size)); go_loud (have d0 := (hB5.cell (p := ⟨q, k * 2, none⟩) hq2).trans d0); go_loud (have d1 := (hB5.cell (p := ⟨q, k * 2 + 1, none⟩) hq2).trans d1); go_loud (have hown5 := Hown.out.keptG hk5 (fun q hq e => by have := (Hown.out.blockG hq).1; simp at e; omega)); go_loud (obtain ⟨b48, w48, e48, ew48, hr48, hb48⟩ := mk_row (cells := Sp.cells) w5 #[.int .i64 f.lo, .int .i64 f.hi] 24 [f] rfl); go_loud (have Hown8 := hide (hown5.bel hb48)); go_loud (have Hr48 := hide hr48); go_loud (have hbs : w4.heap.size ≤ w48.heap.size := by (have := hb48.size; omega)); go_loud (have Hrg5 := hide hrg5); go_loud (have Hfk := hide hfk); go_loud (have Hsj := hide hsj); go_loud (have Hlx := hide hlx); go_loud (have Hs5 := hide hs5); go_loud (clear hrg5 hfk hsj hlx hr48 hown5 hfx hVj hs5); go_loud (rotate_right); go_loud (intro hc0 hl0)) | (at_builtin; rw [ew48.out, e48.out]; refine wpList_app (v := vh) (xs := hs) (ys := [f]) (n := 1) el_sp rfl (.tmp 43) (.tmp 48) rfl rfl Hown8.out rfl rfl Hr48.out (by omega) hbs ?_; intro vv wv hown1 hg1 hat1))
          rotate_left
          · have hB48 := hB5.trans (hb48.mono hB5.size)
            have hvlt : ∀ q, vh.ownBlock = some q → w4.heap.size ≤ q := fun q hq => (Hown8.out.blockG hq).1
            have hkg := Kept.grown hg1
            have hrw : r < w4.heap.size := by omega
            have hr48 : ¬ vh.ownBlock = some r := fun e => by have := hvlt r e; omega
            have hm48 : ¬ vh.ownBlock = some bm := fun e => by have := hvlt bm e; omega
            refine ⟨⟨_, cnt5, vv, _, rfl, hide ((Hrg5.out.keptR (Kept.all (fun _ => True) hb48) trivial trivial).keptR hkg (fun e => hm48 e.symm) (fun e => hr48 e.symm)), hide (fun i hi => Hleft.out i (by simp at hi; exact hi.1)), hide hown1, hide ?_, hB48.trans (hkg.below (fun b hb e => by have := hvlt b e.symm; omega) hB48.size), Nat.le_trans hbs hkg.size⟩, ?_⟩
            · have hmem : j ∈ falN g s l t n := mem_falN.2 ⟨hj, Hsj.out⟩
              have hp1 := (perm_step (left := left) falN_nodup hmem Hlx.out).map (flowK g s l t k)
              rw [List.map_cons, ← Hfk.out] at hp1
              exact (List.perm_append_comm.trans (Hperm.out.cons f)).trans hp1.symm
            · have hl1 := ((Hrg5.out.keptR (Kept.all (fun _ => True) hb48) trivial trivial).keptR hkg (fun e => hm48 e.symm) (fun e => hr48 e.symm)).left_eq
              rw [hl1, HMR.out.left_eq]
              exact hlt5
          · obtain ⟨Ah, ch, hvh, hrh⟩ := Hown.out.rdn _ rfl
            have hall : ((falN g s l t n).filter fun i : Nat => !left (i : Int)) = falN g s l t n := List.filter_eq_self.2 fun i _ => by simp [hl0]
            have hcr : crowdS hs = crowdS (hereK g s l t k) := by
              have hp := Hperm.out
              rw [hall, Hn.out, ← hereK_eq] at hp
              exact crowd_perm hp
            have hcl : crowdS (hereK g s l t k) ≤ 12 := Nat.le_trans (crowd_len _) (by rw [hereK_len, ← Hn.out]; exact hlenN)
            have HM9 := hide hb
            rw [hvh]
            refine (crowd_any Ah hs _ ch wr rfl (by omega) hrh).mono ?_
            rintro e w9 ⟨rfl, hb9⟩
            rw [hcr]
            have hB9 := hb.trans (hb9.mono hb.size)
            clear hrh hall hcr hvh hl0 hc0
            by_cases hlt2 : crowdS (hereK g s l t k) < (nextGo g s l t k).2
            · have e1 := hide (show nextGo g s l t (k + 1) = (k, crowdS (hereK g s l t k)) by rw [nextGo, if_pos hlt2])
              have hlt3 : (crowdS (hereK g s l t k) : Int) < ((nextGo g s l t k).2 : Int) := by omega
              go_wp2_with fail
              exact ⟨⟨k + 1, by rw [e1.out], by rw [e1.out], by go_num, by omega, hB9⟩, by simp [intOf]; omega⟩
            · have e1 := hide (show nextGo g s l t (k + 1) = nextGo g s l t k by rw [nextGo, if_neg hlt2])
              have hlt3 : ¬ (crowdS (hereK g s l t k) : Int) < ((nextGo g s l t k).2 : Int) := by omega
              go_wp2_with fail
              exact ⟨⟨k + 1, by rw [e1.out], by rw [e1.out], by go_num, by omega, hB9⟩, by simp [intOf]; omega⟩
      · obtain rfl : k = n + 1 := by omega
        have e1 := hide (show nextS g s l t = nextGo g s l t (n + 1) by rw [nextS, if_pos He.out, Hn.out])
        go_wp2_with fail
        refine bodyPost_ret (v := .tuple #[.int .i64 ((nextGo g s l t (n + 1)).1 : Int), .int .i64 ((nextGo g s l t (n + 1)).2 : Int), .int .i64 0]) (by simp [results, Try.results29, go_sem]; try rfl) rfl ?_
        exact ⟨by rw [e1.out, He.out], hB2.trans ((hb3.trans (hb.mono hb3.size)).mono hB2.size)⟩
  · have He := hide he
    have hne : (falE g s l t == 0) = false := by simpa using he
    have hne2 : (falE g s l t != 0) = true := by simpa using he
    clear he
    go_enter Try.func29, Try.ntmps29
    go_wp2_with fail
    rw [ew1.out, e5.out, e57, ew2.out]
    refine HE.out.mono ?_
    rintro e w3 (⟨he, _⟩ | ⟨_, rfl, hb3⟩)
    · exact absurd he He.out
    go_wp2_with fail
    refine bodyPost_ret (v := .tuple #[.int .i64 0, .int .i64 0, .int .i64 (falE g s l t)]) (by simp [results, Try.results29, go_sem]; try rfl) rfl ?_
    exact ⟨by simp only [nextS, if_neg He.out]; rfl, hB2.trans (hb3.mono hB2.size)⟩
end Go.Proofs.Ytkmocikcohhdoaa
