/- Gallery: Falls, by contract. -/
import Derived.Test.YtkmocikcohhdoaaH4
set_option linter.unusedVariables false
set_option linter.unusedSimpArgs false
namespace Go.Proofs.Ytkmocikcohhdoaa
open Go.RowKit Go.Shelf Go.Maps
attribute [local go_sem] ite_min ite_max
theorem el_int : ElLaw Try.prog 26 3 1 8 icell := elLaw_of Try.underlying26 info_int rfl (by omega) (fun _ => rfl) icell_one (by omega)
def FallsPost (g : List Rc) (s : Sp) (l : List Ga) (t : Sp) (w : World) (e : Ending) (w' : World) : Prop :=
  ∃ v, e = .returned (.tuple #[v, .bool (falW g s l t), .int .i64 (falE g s l t)]) ∧ Own w' w.heap.size 3 1 icell v (falL g s l t) ∧ Below w.heap.size w w'
theorem falM_at {g : List Rc} {s : Sp} {l : List Ga} {t : Sp} {V : Nat → Value} {n k : Nat} (hk : k < n) : falM g s l t V n (k : Int) = if (fitF g s l t k).isSome = true then some (V k) else none := by
  unfold falM
  simp only [Int.toNat_natCast]
  congr 1
  simp only [eq_iff_iff]
  exact ⟨fun h => h.2.2, fun h => ⟨by omega, hk, h⟩⟩
theorem zero_spans (w : World) : (zeroValue 37).run Try.prog w = .ok (.slice none 0 0) w := by kernel_rfl
set_option maxHeartbeats 4000000 in
set_option maxRecDepth 100000 in
theorem falls_any (A A1 : Option Addr) (g : List Rc) (s : Sp) (l : List Ga) (t : Sp) (n c n1 c1 : Nat) (w : World) (hn : n = g.length) (hm : n ≤ 9223372036854775807) (hx : Rd w w.heap.size Rc.cells A g)
    (hnl : n1 = l.length) (hm1 : n1 ≤ 9223372036854775807) (hx1 : Rd w w.heap.size Ga.cells A1 l) :
    Calls Try.prog 27 #[.slice A n c, .agg #[.int .i64 s.lo, .int .i64 s.hi], .slice A1 n1 c1, .agg #[.int .i64 t.lo, .int .i64 t.hi]] w (FallsPost g s l t w) := by
  obtain ⟨b5, w1, e5, ew1, hx5, hb1, hz1⟩ := mk_bx w #[.int .i64 s.lo, .int .i64 s.hi] 24
  obtain ⟨b7, w2, e7, ew2, hx7, hb2, hz2⟩ := mk_bx w1 #[.int .i64 t.lo, .int .i64 t.hi] 24
  have e57 : b5 + 1 = b7 := by have := e7.out; omega
  have hB2 := hb1.trans (hb2.mono hb1.size)
  replace hx5 := hx5.bel hb2
  have Hn := hide hn; have Hn1 := hide hnl; have Hx : Hid (Rd w2 w2.heap.size Rc.cells A g) := hide ((hx.below hB2).more hB2.size); have Hx1 : Hid (Rd w2 w2.heap.size Ga.cells A1 l) := hide ((hx1.below hB2).more hB2.size)
  have HE := hide (gsearch_any A A1 g s l t n c n1 c1 w2 hn hm Hx.out hnl hm1 Hx1.out)
  obtain ⟨q0, q1, _, _⟩ := hx5.w2
  obtain ⟨p0, p1, _, _⟩ := hx7.w2
  clear hn hnl hx hx1 hz1 hz2
  by_cases he : falE g s l t = 0
  · obtain ⟨he1, ht1, _⟩ := falE_parts he
    obtain ⟨hok, hg12, hl30, hfine, hs, hga, hgf⟩ := enter_parts he1
    have He := hide he; have Hfine := hide hfine; have Hbd := hide (rdS_bd n l hgf); have Hs := hide hs; have Hga : Hid (gaIn n l) := hide (by rw [Hn.out]; exact hga)
    have hn12 : n ≤ 12 := by rw [Hn.out]; exact hg12
    have hn20 : n ≤ 20 := by omega
    have hn1 : n1 ≤ 100 := by have := Hn1.out; omega
    have eF : flowsF g (rdS n l) s = fitS g l s := by rw [Hn.out]; rfl
    have HF := hide eF
    clear he he1 ht1 hok hfine hs hga hgf eF
    go_enter Try.func27, Try.ntmps27
    go_wp2_with fail
    rw [ew1.out, e5.out, e57, ew2.out]
    refine HE.out.mono ?_
    rintro e w3 (⟨_, bm, V, rfl, hbm, hM, hR, hb3⟩ | ⟨hne, _⟩)
    rotate_left
    · exact absurd He.out hne
    have HM := hide hM; have Hbm := hide hbm
    rw [← Hn.out] at HM
    clear hM hbm q0 q1 p0 p1 hR
    have hz := zero_spans
    have Hz := hide hz
    clear hz
    go_wp2_with fail
    go_loopw [8, 28] (fun a i wr => ∃ (k : Nat) (va : Value), va = a ∧ i = .int .i64 k ∧ k ≤ n ∧ Own wr w3.heap.size 3 1 icell va ((falN g s l t k).map Int.ofNat) ∧ Below w3.heap.size w3 wr) (fun _ i _ => n - (intOf i).toNat)
    case atStart => exact ⟨0, _, rfl, rfl, by omega, Own.nil _ _ _ _ _, Below.refl _ _⟩
    case round =>
      obtain ⟨k, va, rfl, rfl, hk, hva, hb⟩ := hrel
      by_cases hlt : k < n
      · have HMr := hide (HM.out.bel hb)
        have hok : okI (k : Int) := by unfold okI; omega
        have hat := falM_at (g := g) (s := s) (l := l) (t := t) (V := V) hlt
        have Hok := hide hok; have Hat := hide hat; have Hva := hide hva; have Hb := hide hb
        have hva0 := fun q hq => (hva.blockG (g := q) hq).1
        clear hok hat hva hb
        cases hF : (fitF g s l t k).isSome
        · have Hnone : Hid (falM g s l t V n (k : Int) = none) := hide (by rw [Hat.out, hF]; rfl)
          have Hs2 := hide (show falN g s l t (k + 1) = falN g s l t k by rw [falN_succ, hF]; rfl)
          clear hF
          go_wp2_with (at_lookup; refine wpList_mapLookV rfl (.tmp 32) (.tmp 33) rfl Try.underlying3 Try.underlying123 (Hz.out _) HMr.out rfl k rfl Hok.out ?_; rw [Hnone.out])
          exact ⟨⟨k + 1, va, rfl, by go_num, by omega, by rw [Hs2.out]; exact Hva.out, Hb.out⟩, by simp [intOf]; omega⟩
        · have Hsome : Hid (falM g s l t V n (k : Int) = some (V k)) := hide (by rw [Hat.out, hF]; rfl)
          have Hs2 := hide (show falN g s l t (k + 1) = falN g s l t k ++ [k] by rw [falN_succ, hF]; rfl)
          obtain ⟨b40, w40, e40, ew40, hr40, hb40⟩ := mk_row (cells := icell) wr #[.int .i64 k] 3 [(k : Int)] rfl
          have Hva4 := hide (Hva.out.bel hb40); have Hr40 := hide hr40
          have hlen : ((falN g s l t k).map Int.ofNat).length + 1 ≤ 1000000 := by have := falN_len (g := g) (s := s) (l := l) (t := t) k; rw [List.length_map]; omega
          have hbs : w3.heap.size ≤ w40.heap.size := Nat.le_trans Hb.out.size hb40.size
          clear hF hr40
          go_wp2_with (first | (at_lookup; refine wpList_mapLookV rfl (.tmp 32) (.tmp 33) rfl Try.underlying3 Try.underlying123 (Hz.out _) HMr.out rfl k rfl Hok.out ?_; rw [Hsome.out]) | (at_builtin; rw [ew40.out, e40.out]; refine wpList_app (v := va) (xs := (falN g s l t k).map Int.ofNat) (ys := [(k : Int)]) (n := 1) el_int rfl (.tmp 38) (.tmp 40) rfl rfl Hva4.out rfl rfl Hr40.out hlen hbs ?_; intro vv wv hown1 hg1 hat1))
          have hB40 := Hb.out.trans (hb40.mono Hb.out.size)
          exact ⟨⟨k + 1, vv, rfl, by go_num, by omega, by rw [Hs2.out, List.map_append]; exact hown1, hB40.trans ((Kept.grown hg1).below (fun b hb e => by have := hva0 b e.symm; omega) hB40.size)⟩, by simp [intOf]; omega⟩
      · obtain rfl : n = k := by omega
        have hBr := hb3.trans (hb.mono hb3.size)
        have HBr := hide hBr
        have hvl := hva
        have hx5r := hx5.bel hBr
        clear hva hb hBr
        go_wp2_with fail
        refine wp_region_held_drew (S := (fun W => Below wr.heap.size wr W)) (by kernel_rfl) (by (try dsimp only); exact (Below.refl _ _).drew) (fun hHeld => ?_)
        generalize World.drew wr = Wd11 at hHeld ⊢
        have hvl := hvl.bel hHeld
        have hbc := Below.refl Wd11.heap.size Wd11
        refine wpAnyH_take (i := 0) (oi := ⟨_, _, _, _, _, _⟩) (v := ?_) rfl (by kernel_rfl) (by kernel_rfl) (by kernel_rfl) (fun _ _ _ h => h) (Or.inl ⟨by rfl, ?_⟩) hHeld ?_
        rotate_left
        · (intro w hSw; (try dsimp only at hSw); go_simp; try (with_reducible rfl))
        try simp only [Act.put, List.setIfInBounds_toArray, List.set_cons_zero, List.set_cons_succ]
        refine wpAnyH_take (i := 1) (oi := ⟨_, _, _, _, _, _⟩) (v := ?_) rfl (by kernel_rfl) (by kernel_rfl) (by kernel_rfl) (fun _ _ _ h => h) (Or.inl ⟨by rfl, ?_⟩) hHeld ?_
        rotate_left
        · (intro w hSw; (try dsimp only at hSw); go_simp; try (with_reducible rfl))
        try simp only [Act.put, List.setIfInBounds_toArray, List.set_cons_zero, List.set_cons_succ]
        refine wpAnyH_take (i := 3) (oi := ⟨_, _, _, _, _, _⟩) (v := ?_) rfl (by kernel_rfl) (by kernel_rfl) (by kernel_rfl) (fun _ _ _ h => h) (Or.inl ⟨by rfl, ?_⟩) hHeld ?_
        rotate_left
        · (intro w hSw; (try dsimp only at hSw); obtain ⟨q0, q1, _, _⟩ := (hx5r.bel hSw).w2; go_simp; try (with_reducible rfl))
        try simp only [Act.put, List.setIfInBounds_toArray, List.set_cons_zero, List.set_cons_succ]
        refine wpAnyH_ready (rs := [2]) (by kernel_rfl) (by simp) ?_
        refine AllReadyH.cons (o := ⟨_, _, _, _, _, _⟩) rfl (fun K hK => ?_) AllReadyH.nil
        go_simp
        refine (open_any A A1 g l n c n1 c1 _ Hn.out hn20 ((Hx.out.below (HBr.out.trans (hHeld.mono HBr.out.size))).more (HBr.out.trans (hHeld.mono HBr.out.size)).size) Hn1.out hn1 ((Hx1.out.below (HBr.out.trans (hHeld.mono HBr.out.size))).more (HBr.out.trans (hHeld.mono HBr.out.size)).size) Hga.out).mono ?_
        rintro e V46 ⟨Aa, ca, gb, cb, rfl, hoa, hob, hb⟩
        go_wp2_with fail
        have hHeldN := hHeld.trans (hb.mono hHeld.size)
        have hvl := hvl.bel hb
        have hbc := hbc.trans (hb.mono hbc.size)
        refine hK.out _ _ ?_ (fun hHeld2 => ?_)
        · exact hHeldN
        clear hK K hHeld hHeldN hb; have hHeld := hHeld2; clear hHeld2
        try simp only [Act.put, List.setIfInBounds_toArray, List.set_cons_zero, List.set_cons_succ]
        refine wpAnyH_ready (rs := [4]) (by kernel_rfl) (by simp) ?_
        refine AllReadyH.cons (o := ⟨_, _, _, _, _, _⟩) rfl (fun K hK => ?_) AllReadyH.nil
        go_simp
        refine (fit_any Aa (some ⟨gb, 0, none⟩) n ca cb g (rdS n l) s _ hoa.rdw hob.rdw Hn.out hn20 (rdS_len _ _) Hfine.out Hbd.out Hs.out).mono ?_
        rintro e V48 ⟨vf, rfl, hov, hb⟩
        go_wp2_with fail
        have hHeldN := hHeld.trans (hb.mono hHeld.size)
        have hvl := hvl.bel hb
        have hoa := hoa.bel hb
        have hob := hob.bel hb
        have hbc := hbc.trans (hb.mono hbc.size)
        refine hK.out _ _ ?_ (fun hHeld2 => ?_)
        · exact hHeldN
        clear hK K hHeld hHeldN hb; have hHeld := hHeld2; clear hHeld2
        try simp only [Act.put, List.setIfInBounds_toArray, List.set_cons_zero, List.set_cons_succ]
        refine wpAnyH_take (i := 5) (oi := ⟨_, _, _, _, _, _⟩) (v := ?_) rfl (by kernel_rfl) (by kernel_rfl) (by kernel_rfl) (fun _ _ _ h => h) (Or.inl ⟨by rfl, ?_⟩) hHeld ?_
        rotate_left
        · (intro w hSw; (try dsimp only at hSw); go_simp; try (with_reducible rfl))
        try simp only [Act.put, List.setIfInBounds_toArray, List.set_cons_zero, List.set_cons_succ]
        refine wpAnyH_take (i := 6) (oi := ⟨_, _, _, _, _, _⟩) (v := ?_) rfl (by kernel_rfl) (by kernel_rfl) (by kernel_rfl) (fun _ _ _ h => h) (Or.inl ⟨by rfl, ?_⟩) hHeld ?_
        rotate_left
        · (intro w hSw; (try dsimp only at hSw); go_simp; try (with_reducible rfl))
        try simp only [Act.put, List.setIfInBounds_toArray, List.set_cons_zero, List.set_cons_succ]
        refine wpAnyH_take (i := 7) (oi := ⟨_, _, _, _, _, _⟩) (v := ?_) rfl (by kernel_rfl) (by kernel_rfl) (by kernel_rfl) (fun _ _ _ h => h) (Or.inl ⟨by rfl, ?_⟩) hHeld ?_
        rotate_left
        · (intro w hSw; (try dsimp only at hSw); go_simp; try (with_reducible rfl))
        try simp only [Act.put, List.setIfInBounds_toArray, List.set_cons_zero, List.set_cons_succ]
        refine wpAnyH_take (i := 8) (oi := ⟨_, _, _, _, _, _⟩) (v := ?_) rfl (by kernel_rfl) (by kernel_rfl) (by kernel_rfl) (fun _ _ _ h => h) (Or.inl ⟨by rfl, ?_⟩) hHeld ?_
        rotate_left
        · (intro w hSw; (try dsimp only at hSw); go_simp; try (with_reducible rfl))
        try simp only [Act.put, List.setIfInBounds_toArray, List.set_cons_zero, List.set_cons_succ]
        refine wpAnyH_done (by kernel_rfl) ?_ _
        have Hvl := hide hvl
        clear hvl hov hoa hob
        obtain ⟨Al, cl, rfl, hrl⟩ := Hvl.out.rdn _ rfl
        clear hrl
        go_wp2_with fail
        refine bodyPost_ret (v := .tuple #[.slice Al ((falN g s l t n).map Int.ofNat).length cl, .bool (flowsF g (rdS n l) s).isSome, .int .i64 0]) (by simp [results, Try.results27, go_sem]; try rfl) rfl ?_
        refine ⟨.slice Al ((falN g s l t n).map Int.ofNat).length cl, by rw [He.out, HF.out]; simp only [falW, He.out, if_true], ?_, hB2.trans ((HBr.out.trans (hHeld.mono HBr.out.size)).mono hB2.size)⟩
        unfold falL
        rw [if_pos He.out, ← Hn.out]
        exact Hvl.out.mono (Nat.le_trans hB2.size hb3.size)
  · have He := hide he
    have hne : (falE g s l t == 0) = false := by simpa using he
    have hne2 : (falE g s l t != 0) = true := by simpa using he
    clear he
    go_enter Try.func27, Try.ntmps27
    go_wp2_with fail
    rw [ew1.out, e5.out, e57, ew2.out]
    refine HE.out.mono ?_
    rintro e w3 (⟨he, _⟩ | ⟨_, rfl, hb3⟩)
    · exact absurd he He.out
    go_wp2_with fail
    refine bodyPost_ret (v := .tuple #[.slice none 0 0, .bool false, .int .i64 (falE g s l t)]) (by simp [results, Try.results27, go_sem]; try rfl) rfl ?_
    exact ⟨.slice none 0 0, by simp only [falW, if_neg He.out], by simp only [falL, if_neg He.out]; exact Own.nil _ _ _ _ _, hB2.trans (hb3.mono hB2.size)⟩
end Go.Proofs.Ytkmocikcohhdoaa
