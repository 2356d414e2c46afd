/- Gallery: the reference's Next, by contract. -/
import Derived.Test.YtkmocikcohhdoaaH6
import Derived.Test.YtkmocikcohhdoaaH7
set_option linter.unusedVariables false
set_option linter.unusedSimpArgs false
namespace Go.Proofs.Ytkmocikcohhdoaa
open Go.RowKit Go.Shelf
attribute [local go_sem] ite_min ite_max
theorem below_of_eq {w w' : World} (h : w = w') : Below w.heap.size w w' := h ▸ Below.refl _ _
set_option maxHeartbeats 4000000 in
set_option maxRecDepth 100000 in
theorem rNext_any (A A1 : Option Addr) (g : List Rc) (s : Sp) (l : List Ga) (t : Sp) (n c n1 c1 : Nat) (w : World) (hn : n = g.length) (hm : n ≤ 9223372036854775807) (hx : Rd w w.heap.size Rc.cells A g)
    (hnl : n1 = l.length) (hm1 : n1 ≤ 9223372036854775807) (hx1 : Rd w w.heap.size Ga.cells A1 l) :
    Calls Try.prog 30 #[.slice A n c, .agg #[.int .i64 s.lo, .int .i64 s.hi], .slice A1 n1 c1, .agg #[.int .i64 t.lo, .int .i64 t.hi]] w (NextPost g s l t w) := by
  obtain ⟨b5, w1, e5, ew1, hx5, hb1, hz1⟩ := mk_bx w #[.int .i64 s.lo, .int .i64 s.hi] 24
  obtain ⟨b7, w2, e7, ew2, hx7, hb2, hz2⟩ := mk_bx w1 #[.int .i64 t.lo, .int .i64 t.hi] 24
  have e57 : b5 + 1 = b7 := by have := e7.out; omega
  have hB2 := hb1.trans (hb2.mono hb1.size)
  replace hx5 := hx5.bel hb2
  have Hn := hide hn; have Hn1 := hide hnl; have Hx : Hid (Rd w2 w2.heap.size Rc.cells A g) := hide ((hx.below hB2).more hB2.size); have Hx1 : Hid (Rd w2 w2.heap.size Ga.cells A1 l) := hide ((hx1.below hB2).more hB2.size)
  have HE := hide (rFalls_any A A1 g s l t n c n1 c1 w2 hn hm Hx.out hnl hm1 Hx1.out)
  obtain ⟨q0, q1, _, _⟩ := hx5.w2
  obtain ⟨p0, p1, _, _⟩ := hx7.w2
  clear hn hnl hx hx1 hz1 hz2
  by_cases he : falE g s l t = 0
  · obtain ⟨he1, ht1, _⟩ := falE_parts he
    obtain ⟨hok, hg12, hl30, hfine, hs, hga, hgf⟩ := enter_parts he1
    have He := hide he; have Hfine := hide hfine; have Hs := hide hs; have Ht := hide (okS_fine ht1); have Hga : Hid (gaIn n l) := hide (by rw [Hn.out]; exact hga); have Hgf := hide hgf
    have hn12 : n ≤ 12 := by rw [Hn.out]; exact hg12
    have hn30 : n1 ≤ 30 := by rw [Hn1.out]; exact hl30
    have El := hide (show falL g s l t = (falN g s l t n).map Int.ofNat by unfold falL; rw [if_pos he, Hn.out])
    clear he he1 ht1 hok hfine hs hga hgf
    go_enter Try.func30, Try.ntmps30
    go_wp2_with fail
    rw [ew1.out, e5.out, e57, ew2.out]
    refine HE.out.mono ?_
    rintro e w3 ⟨v, rfl, hov, hb3⟩
    rw [El.out] at hov
    rw [He.out]
    obtain ⟨ns, hns⟩ : ∃ ns, ns = falN g s l t n := ⟨_, rfl⟩
    rw [← hns] at hov
    obtain ⟨z, hz⟩ : ∃ z, z = ns.length := ⟨_, rfl⟩
    obtain ⟨Al, cl, rfl, hrl⟩ := hov.rdn z (by rw [List.length_map]; exact hz.symm)
    have Hns := hide hns; have Hz := hide hz; have Hrl := hide hrl
    have hz12 : z ≤ 12 := by rw [hz, hns]; exact Nat.le_trans (falN_len n) hn12
    have hx53 := hx5.bel hb3
    have hx73 := hx7.bel hb3
    clear hov hrl hns hz q0 q1 p0 p1
    go_wp2_with fail
    go_loopw [14, 15, 16] (fun a d i wr => ∃ k : Nat, a = .int .i64 ((nextGo g s l t k).1 : Int) ∧ d = .int .i64 ((nextGo g s l t k).2 : Int) ∧ i = .int .i64 k ∧ k ≤ n + 1 ∧ Below w3.heap.size w3 wr) (fun _ _ i _ => n + 1 - (intOf i).toNat)
    case atStart => exact ⟨0, rfl, by rw [show (nextGo g s l t 0).2 = z + 1 by rw [Hz.out, Hns.out, Hn.out]; rfl]; rfl, rfl, by omega, Below.refl _ _⟩
    case round =>
      obtain ⟨k, rfl, rfl, rfl, hk, hb⟩ := hrel
      obtain ⟨hg1, hg2⟩ := nextGo_le (g := g) (s := s) (l := l) (t := t) k
      rw [← Hn.out, ← Hns.out, ← Hz.out] at hg1
      by_cases hlt : k ≤ n
      · have Hb := hide hb
        obtain ⟨wo, rfl⟩ : ∃ wo, wo = wr := ⟨wr, rfl⟩
        have hB3o := hb3.trans (hb.mono hb3.size)
        clear hb
        go_wp2_with fail
        go_loopw [17, 18] (fun a i wr => ∃ (i' : Nat) (vm : Value), vm = a ∧ i = .int .i64 i' ∧ i' ≤ z ∧ Own wr wo.heap.size 24 2 Sp.cells vm ((ns.take i').map (flowK g s l t k)) ∧ Below wo.heap.size wo wr) (fun _ i _ => z - (intOf i).toNat)
        case atStart => exact ⟨0, _, rfl, rfl, by omega, Own.nil _ _ _ _ _, Below.refl _ _⟩
        case round =>
          obtain ⟨i, vm, rfl, rfl, hi, hvm, hb⟩ := hrel
          have hB2r := hB3o.trans (hb.mono hB3o.size)
          by_cases hiz : i < z
          · have hbr := Hb.out.trans (hb.mono Hb.out.size)
            obtain ⟨bl, offl, cx, rfl, hbl, hxc, c0⟩ := (Hrl.out.below hbr).int (i := i) (by rw [List.length_map, ← Hz.out]; exact hiz)
            obtain ⟨j, hj⟩ : ∃ j, ns[i]? = some j := ⟨_, List.getElem?_eq_getElem (by rw [← Hz.out]; exact hiz)⟩
            have hcx : cx = (j : Int) := by rw [List.getElem?_map, hj] at hxc; simpa using hxc.symm
            subst hcx
            obtain ⟨hjn, hjs⟩ := mem_falN.1 (by rw [← Hns.out]; exact List.mem_of_getElem? hj)
            obtain ⟨F, hF⟩ := Option.isSome_iff_exists.1 hjs
            have hFl := fitF_len hF
            have Hfl : Hid (n = (fallS g j t).length) := hide (by rw [fallS_len]; exact Hn.out)
            have HFit := hide (fun gq cq (wq : World) h1 h2 => rfit_any (some ⟨gq, 0, none⟩) A1 (fallS g j t) s l n cq n1 c1 wq Hfl.out (by omega) h1 Hn1.out (by omega) h2 (fallS_fine Hfine.out Ht.out) Hs.out Hga.out Hgf.out)
            have hp : RFitPost (fallS g j t) l s = fun w e w' => ∃ v, e = .returned (.tuple #[v, .bool true]) ∧ Own w' w.heap.size 24 2 Sp.cells v F ∧ Below w.heap.size w w' := by funext w e w'; unfold fitF at hF; simp [RFitPost, hF]
            simp only [hp] at HFit
            obtain ⟨f, hFk⟩ : ∃ f, F[k]? = some f := ⟨_, List.getElem?_eq_getElem (by rw [hFl, ← Hn.out]; omega)⟩
            have hfk : f = flowK g s l t k j := by unfold flowK; rw [hF, Option.getD_some, List.getD_eq_getElem?_getD, hFk]; rfl
            have hstep : (ns.take (i + 1)).map (flowK g s l t k) = (ns.take i).map (flowK g s l t k) ++ [f] := by rw [take_snoc hj, List.map_append, hfk]; rfl
            have HFk := hide hFk; have Hstep := hide hstep; have HFl : Hid (F.length = n + 1) := hide (by rw [hFl, Hn.out]); have Hvm := hide hvm
            have HBo := hide hB2r; have Hb' := hide hb
            have hx5r := hx5.bel hB2r
            have hx7r := hx7.bel hB2r
            have hblw : bl < wr.heap.size := by have := hbr.size; omega
            have iz : (i : Int) < (z : Int) := by omega
            have hva0 := fun q hq => (hvm.blockG (g := q) hq).1
            clear hxc hj hjs hF hFl hp hFk hfk hstep hvm hb hB2r hbr
            go_wp2_with fail
            refine wp_region_held_drew (S := (fun W => Below wr.heap.size wr W)) (by kernel_rfl) (by (try dsimp only); exact (Below.refl _ _).drew) (fun hHeld => ?_)
            generalize World.drew wr = Wd12 at hHeld ⊢
            have hbc := Below.refl Wd12.heap.size Wd12
            refine wpAnyH_take (i := 0) (oi := ⟨_, _, _, _, _, _⟩) (v := ?_) rfl (by kernel_rfl) (by kernel_rfl) (by kernel_rfl) (fun _ _ _ h => h) (Or.inl ⟨by rfl, ?_⟩) hHeld ?_
            rotate_left
            · (intro w hSw; (try dsimp only at hSw); go_simp; try (with_reducible rfl))
            try simp only [Act.put, List.setIfInBounds_toArray, List.set_cons_zero, List.set_cons_succ]
            refine wpAnyH_take (i := 1) (oi := ⟨_, _, _, _, _, _⟩) (v := ?_) rfl (by kernel_rfl) (by kernel_rfl) (by kernel_rfl) (fun _ _ _ h => h) (Or.inl ⟨by rfl, ?_⟩) hHeld ?_
            rotate_left
            · (intro w hSw; (try dsimp only at hSw); go_simp; try (with_reducible rfl))
            try simp only [Act.put, List.setIfInBounds_toArray, List.set_cons_zero, List.set_cons_succ]
            refine wpAnyH_take (i := 2) (oi := ⟨_, _, _, _, _, _⟩) (v := ?_) rfl (by kernel_rfl) (by kernel_rfl) (by kernel_rfl) (fun _ _ _ h => h) (Or.inl ⟨by rfl, ?_⟩) hHeld ?_
            rotate_left
            · (intro w hSw; (try dsimp only at hSw); go_simp; try (with_reducible rfl))
            try simp only [Act.put, List.setIfInBounds_toArray, List.set_cons_zero, List.set_cons_succ]
            refine wpAnyH_take (i := 3) (oi := ⟨_, _, _, _, _, _⟩) (v := ?_) rfl (by kernel_rfl) (by kernel_rfl) (by kernel_rfl) (fun _ _ _ h => h) (Or.inl ⟨by rfl, ?_⟩) hHeld ?_
            rotate_left
            · (intro w hSw; (try dsimp only at hSw); go_simp; try (with_reducible rfl))
            try simp only [Act.put, List.setIfInBounds_toArray, List.set_cons_zero, List.set_cons_succ]
            refine wpAnyH_take (i := 4) (oi := ⟨_, _, _, _, _, _⟩) (v := ?_) rfl (by kernel_rfl) (by kernel_rfl) (by kernel_rfl) (fun _ _ _ h => h) (Or.inl ⟨by rfl, ?_⟩) hHeld ?_
            rotate_left
            · (intro w hSw; (try dsimp only at hSw); have c0 := (hSw.cell (p := ⟨bl, offl + i, none⟩) hblw).trans c0; obtain ⟨q0, q1, _, _⟩ := (hx5r.bel hSw).w2; obtain ⟨p0, p1, _, _⟩ := (hx7r.bel hSw).w2; go_simp; try (with_reducible rfl))
            try simp only [Act.put, List.setIfInBounds_toArray, List.set_cons_zero, List.set_cons_succ]
            refine wpAnyH_take (i := 5) (oi := ⟨_, _, _, _, _, _⟩) (v := ?_) rfl (by kernel_rfl) (by kernel_rfl) (by kernel_rfl) (fun _ _ _ h => h) (Or.inl ⟨by rfl, ?_⟩) hHeld ?_
            rotate_left
            · (intro w hSw; (try dsimp only at hSw); have c0 := (hSw.cell (p := ⟨bl, offl + i, none⟩) hblw).trans c0; obtain ⟨q0, q1, _, _⟩ := (hx5r.bel hSw).w2; obtain ⟨p0, p1, _, _⟩ := (hx7r.bel hSw).w2; go_simp; try (with_reducible rfl))
            try simp only [Act.put, List.setIfInBounds_toArray, List.set_cons_zero, List.set_cons_succ]
            refine wpAnyH_take (i := 7) (oi := ⟨_, _, _, _, _, _⟩) (v := ?_) rfl (by kernel_rfl) (by kernel_rfl) (by kernel_rfl) (fun _ _ _ h => h) (Or.inl ⟨by rfl, ?_⟩) hHeld ?_
            rotate_left
            · (intro w hSw; (try dsimp only at hSw); have c0 := (hSw.cell (p := ⟨bl, offl + i, none⟩) hblw).trans c0; obtain ⟨q0, q1, _, _⟩ := (hx5r.bel hSw).w2; obtain ⟨p0, p1, _, _⟩ := (hx7r.bel hSw).w2; go_simp; try (with_reducible rfl))
            try simp only [Act.put, List.setIfInBounds_toArray, List.set_cons_zero, List.set_cons_succ]
            refine wpAnyH_take (i := 8) (oi := ⟨_, _, _, _, _, _⟩) (v := ?_) rfl (by kernel_rfl) (by kernel_rfl) (by kernel_rfl) (fun _ _ _ h => h) (Or.inl ⟨by rfl, ?_⟩) hHeld ?_
            rotate_left
            · (intro w hSw; (try dsimp only at hSw); go_simp; try (with_reducible rfl))
            try simp only [Act.put, List.setIfInBounds_toArray, List.set_cons_zero, List.set_cons_succ]
            refine wpAnyH_ready (rs := [6]) (by kernel_rfl) (by simp) ?_
            refine AllReadyH.cons (o := ⟨_, _, _, _, _, _⟩) rfl (fun K hK => ?_) AllReadyH.nil
            go_simp
            refine (rfallen_any A g t j n c _ Hn.out hjn (by omega) ((Hx.out.below (HBo.out.trans (hHeld.mono HBo.out.size))).more (HBo.out.trans (hHeld.mono HBo.out.size)).size)).mono ?_
            rintro e V59 ⟨gq, cq, rfl, hoq, hb⟩
            go_wp2_with fail
            have hHeldN := hHeld.trans (hb.mono hHeld.size)
            have hbc := hbc.trans (hb.mono hbc.size)
            refine hK.out _ _ ?_ (fun hHeld2 => ?_)
            · exact hHeldN
            clear hK K hHeld hHeldN hb; have hHeld := hHeld2; clear hHeld2
            try simp only [Act.put, List.setIfInBounds_toArray, List.set_cons_zero, List.set_cons_succ]
            refine wpAnyH_ready (rs := [9]) (by kernel_rfl) (by simp) ?_
            refine AllReadyH.cons (o := ⟨_, _, _, _, _, _⟩) rfl (fun K hK => ?_) AllReadyH.nil
            go_simp
            refine (HFit.out gq cq _ hoq.rdw ((Hx1.out.below (HBo.out.trans (hHeld.mono HBo.out.size))).more (HBo.out.trans (hHeld.mono HBo.out.size)).size)).mono ?_
            rintro e V62 ⟨vf, rfl, hov, hb⟩
            go_wp2_with fail
            have hHeldN := hHeld.trans (hb.mono hHeld.size)
            have hoq := hoq.bel hb
            have hbc := hbc.trans (hb.mono hbc.size)
            refine hK.out _ _ ?_ (fun hHeld2 => ?_)
            · exact hHeldN
            clear hK K hHeld hHeldN hb; have hHeld := hHeld2; clear hHeld2
            try simp only [Act.put, List.setIfInBounds_toArray, List.set_cons_zero, List.set_cons_succ]
            refine wpAnyH_take (i := 10) (oi := ⟨_, _, _, _, _, _⟩) (v := ?_) rfl (by kernel_rfl) (by kernel_rfl) (by kernel_rfl) (fun _ _ _ h => h) (Or.inl ⟨by rfl, ?_⟩) hHeld ?_
            rotate_left
            · (intro w hSw; (try dsimp only at hSw); go_simp; try (with_reducible rfl))
            try simp only [Act.put, List.setIfInBounds_toArray, List.set_cons_zero, List.set_cons_succ]
            refine wpAnyH_take (i := 11) (oi := ⟨_, _, _, _, _, _⟩) (v := ?_) rfl (by kernel_rfl) (by kernel_rfl) (by kernel_rfl) (fun _ _ _ h => h) (Or.inl ⟨by rfl, ?_⟩) hHeld ?_
            rotate_left
            · (intro w hSw; (try dsimp only at hSw); go_simp; try (with_reducible rfl))
            try simp only [Act.put, List.setIfInBounds_toArray, List.set_cons_zero, List.set_cons_succ]
            refine wpAnyH_take (i := 12) (oi := ⟨_, _, _, _, _, _⟩) (v := ?_) rfl (by kernel_rfl) (by kernel_rfl) (by kernel_rfl) (fun _ _ _ h => h) (Or.inl ⟨by rfl, ?_⟩) hHeld ?_
            rotate_left
            · (intro w hSw; (try dsimp only at hSw); go_simp; try (with_reducible rfl))
            try simp only [Act.put, List.setIfInBounds_toArray, List.set_cons_zero, List.set_cons_succ]
            refine wpAnyH_take (i := 13) (oi := ⟨_, _, _, _, _, _⟩) (v := ?_) rfl (by kernel_rfl) (by kernel_rfl) (by kernel_rfl) (fun _ _ _ h => h) (Or.inl ⟨by rfl, ?_⟩) hHeld ?_
            rotate_left
            · (intro w hSw; (try dsimp only at hSw); go_simp; try (with_reducible rfl))
            try simp only [Act.put, List.setIfInBounds_toArray, List.set_cons_zero, List.set_cons_succ]
            refine wpAnyH_take (i := 14) (oi := ⟨_, _, _, _, _, _⟩) (v := ?_) rfl (by kernel_rfl) (by kernel_rfl) (by kernel_rfl) (fun _ _ _ h => h) (Or.inl ⟨by rfl, ?_⟩) hHeld ?_
            rotate_left
            · (intro w hSw; (try dsimp only at hSw); go_simp; try (with_reducible rfl))
            try simp only [Act.put, List.setIfInBounds_toArray, List.set_cons_zero, List.set_cons_succ]
            refine wpAnyH_done (by kernel_rfl) ?_ _
            obtain ⟨gf, cf, rfl, hgf1, hgf2⟩ := hov.blkn HFl.out (by omega)
            obtain ⟨d0, d1, _, _⟩ := own_sp hov HFk.out HFl.out.symm
            have hBv := Hb'.out.trans (hHeld.mono Hb'.out.size)
            have Hvm2 := hide (Hvm.out.bel hHeld)
            have HBv := hide hBv
            clear hov hoq hbc hHeld hBv
            obtain ⟨b70, w70, e70, ew70, hr70, hb70⟩ := mk_row (cells := Sp.cells) V62 #[.int .i64 f.lo, .int .i64 f.hi] 24 [f] rfl
            have Hvm4 := hide (Hvm2.out.bel hb70); have Hr70 := hide hr70
            have hlen : ((ns.take i).map (flowK g s l t k)).length + 1 ≤ 1000000 := by rw [List.length_map, List.length_take]; omega
            have hbs : wo.heap.size ≤ w70.heap.size := Nat.le_trans HBv.out.size hb70.size
            have ikn : (k : Int) < (n : Int) + 1 := by omega
            clear hr70
            go_wp2_with (at_builtin; go_loud (rw [ew70.out, e70.out]); go_loud (refine wpList_app (v := vm) (xs := (ns.take i).map (flowK g s l t k)) (ys := [f]) (n := 1) el_sp rfl (.tmp 65) (.tmp 70) rfl rfl Hvm4.out rfl rfl Hr70.out hlen hbs ?_); go_loud (intro vv wv hown1 hg1 hat1))
            have hB70 := HBv.out.trans (hb70.mono HBv.out.size)
            exact ⟨⟨i + 1, vv, rfl, by go_num, by omega, by rw [Hstep.out]; exact hown1, hB70.trans ((Kept.grown hg1).below (fun b hb e => by have := hva0 b e.symm; omega) hB70.size)⟩, by simp [intOf]; omega⟩
          · obtain rfl : z = i := by omega
            rw [List.take_of_length_le (by rw [← Hz.out]; exact Nat.le_refl _)] at hvm
            have hh : ns.map (flowK g s l t k) = hereK g s l t k := by rw [hereK_eq, ← Hn.out, Hns.out]
            rw [hh] at hvm
            obtain ⟨hs, hhs⟩ : ∃ hs, hs = hereK g s l t k := ⟨_, rfl⟩
            rw [← hhs] at hvm
            have hzl : hs.length = z := by rw [hhs, hereK_len, ← Hn.out, ← Hns.out, Hz.out]
            obtain ⟨Am, cm, rfl, hrm⟩ := hvm.rdn z hzl
            have Hhs := hide hhs; have Hzl := hide hzl; have Hrm := hide hrm
            have hBo := Hb.out.trans (hb.mono Hb.out.size)
            have HBo := hide hBo
            obtain ⟨wm, rfl⟩ : ∃ wm, wm = wr := ⟨wr, rfl⟩
            clear hvm hh hhs hzl hrm hBo hb hB2r
            go_wp2_with fail
            go_loopw [21, 22] (fun v p wr => ∃ i : Nat, i ≤ z ∧ v = .int .i64 (crowdT hs i : Int) ∧ p = .int .i64 i ∧ Below wm.heap.size wm wr) (fun _ p _ => z - (intOf p).toNat)
            case atStart => exact ⟨0, by omega, rfl, rfl, Below.refl _ _⟩
            case round =>
              obtain ⟨i, hi, rfl, rfl, hb⟩ := hrel
              by_cases hiz : i < z
              · obtain ⟨x, hxi⟩ : ∃ x, hs[i]? = some x := ⟨_, List.getElem?_eq_getElem (by rw [Hzl.out]; exact hiz)⟩
                have Hxi := hide hxi; have Hbi := hide hb
                have hc1 : crowdT hs i ≤ 1000 := by have := crowdT_le hs i; have := Hzl.out; omega
                clear hxi hb
                obtain ⟨wi, rfl⟩ : ∃ wi, wi = wr := ⟨wr, rfl⟩
                go_wp2_with fail
                go_loopw [23, 24] (fun v q wr => ∃ j : Nat, j ≤ z ∧ v = .int .i64 (holds (hs.take j) x.lo : Int) ∧ q = .int .i64 j ∧ Below wm.heap.size wm wr) (fun _ q _ => z - (intOf q).toNat)
                case atStart => exact ⟨0, by omega, rfl, rfl, Hbi.out⟩
                case round =>
                  obtain ⟨j, hj, rfl, rfl, hb⟩ := hrel
                  by_cases hjz : j < z
                  · obtain ⟨bm, offm, lo, hi', rfl, hbm, hxk, c0, _⟩ := (Hrm.out.below hb).sp (i := i) (by rw [Hzl.out]; exact hiz)
                    obtain ⟨_, _, lo2, hi2, e', _, hxj, d0, d1⟩ := (Hrm.out.below hb).sp (i := j) (by rw [Hzl.out]; exact hjz)
                    injection e' with e'
                    injection e' with e1 e2
                    subst e1 e2
                    rw [Hxi.out] at hxk
                    injection hxk with hxk
                    have hlo : lo = x.lo := by rw [hxk]
                    subst hlo
                    have hh := holds_snoc hxj x.lo
                    have hh1 : holds (hs.take j) x.lo ≤ 1000 := by have := holds_len (hs.take j) x.lo; rw [List.length_take] at this; omega
                    have Hh := hide hh; have Hb2 := hide hb
                    have hbmw : bm < wr.heap.size := by have := hb.size; omega
                    have iz : (i : Int) < (z : Int) := by omega
                    have jz : (j : Int) < (z : Int) := by omega
                    clear hxj hh hxk hb
                    simp only at Hh
                    cases hin : inB lo2 hi2 x.lo
                    · rw [hin] at Hh
                      have Hh2 := hide (Hh.out.trans (if_neg (by decide)))
                      have Hin := hide hin
                      clear hin Hh
                      go_wp2_with fail
                      refine wp_region_held_drew (S := (fun W => Below wr.heap.size wr W)) (by kernel_rfl) (by (try dsimp only); exact (Below.refl _ _).drew) (fun hHeld => ?_)
                      generalize World.drew wr = Wd22 at hHeld ⊢
                      have hbc := Below.refl Wd22.heap.size Wd22
                      refine wpAnyH_take (i := 0) (oi := ⟨_, _, _, _, _, _⟩) (v := ?_) rfl (by kernel_rfl) (by kernel_rfl) (by kernel_rfl) (fun _ _ _ h => h) (Or.inl ⟨by rfl, ?_⟩) hHeld ?_
                      rotate_left
                      · (intro w hSw; (try dsimp only at hSw); go_simp; try (with_reducible rfl))
                      try simp only [Act.put, List.setIfInBounds_toArray, List.set_cons_zero, List.set_cons_succ]
                      refine wpAnyH_take (i := 1) (oi := ⟨_, _, _, _, _, _⟩) (v := ?_) rfl (by kernel_rfl) (by kernel_rfl) (by kernel_rfl) (fun _ _ _ h => h) (Or.inl ⟨by rfl, ?_⟩) hHeld ?_
                      rotate_left
                      · (intro w hSw; (try dsimp only at hSw); go_simp; try (with_reducible rfl))
                      try simp only [Act.put, List.setIfInBounds_toArray, List.set_cons_zero, List.set_cons_succ]
                      refine wpAnyH_take (i := 2) (oi := ⟨_, _, _, _, _, _⟩) (v := ?_) rfl (by kernel_rfl) (by kernel_rfl) (by kernel_rfl) (fun _ _ _ h => h) (Or.inl ⟨by rfl, ?_⟩) hHeld ?_
                      rotate_left
                      · (intro w hSw; (try dsimp only at hSw); go_simp; try (with_reducible rfl))
                      try simp only [Act.put, List.setIfInBounds_toArray, List.set_cons_zero, List.set_cons_succ]
                      refine wpAnyH_take (i := 3) (oi := ⟨_, _, _, _, _, _⟩) (v := ?_) rfl (by kernel_rfl) (by kernel_rfl) (by kernel_rfl) (fun _ _ _ h => h) (Or.inl ⟨by rfl, ?_⟩) hHeld ?_
                      rotate_left
                      · (intro w hSw; (try dsimp only at hSw); go_simp; try (with_reducible rfl))
                      try simp only [Act.put, List.setIfInBounds_toArray, List.set_cons_zero, List.set_cons_succ]
                      refine wpAnyH_take (i := 4) (oi := ⟨_, _, _, _, _, _⟩) (v := ?_) rfl (by kernel_rfl) (by kernel_rfl) (by kernel_rfl) (fun _ _ _ h => h) (Or.inl ⟨by rfl, ?_⟩) hHeld ?_
                      rotate_left
                      · (intro w hSw; (try dsimp only at hSw); have c0 := (hSw.cell (p := ⟨bm, offm + i * 2, none⟩) hbmw).trans c0; have d0 := (hSw.cell (p := ⟨bm, offm + j * 2, none⟩) hbmw).trans d0; have d1 := (hSw.cell (p := ⟨bm, offm + j * 2 + 1, none⟩) hbmw).trans d1; go_simp; try (with_reducible rfl))
                      try simp only [Act.put, List.setIfInBounds_toArray, List.set_cons_zero, List.set_cons_succ]
                      refine wpAnyH_take (i := 5) (oi := ⟨_, _, _, _, _, _⟩) (v := ?_) rfl (by kernel_rfl) (by kernel_rfl) (by kernel_rfl) (fun _ _ _ h => h) (Or.inl ⟨by rfl, ?_⟩) hHeld ?_
                      rotate_left
                      · (intro w hSw; (try dsimp only at hSw); go_simp; try (with_reducible rfl))
                      try simp only [Act.put, List.setIfInBounds_toArray, List.set_cons_zero, List.set_cons_succ]
                      refine wpAnyH_take (i := 6) (oi := ⟨_, _, _, _, _, _⟩) (v := ?_) rfl (by kernel_rfl) (by kernel_rfl) (by kernel_rfl) (fun _ _ _ h => h) (Or.inl ⟨by rfl, ?_⟩) hHeld ?_
                      rotate_left
                      · (intro w hSw; (try dsimp only at hSw); go_simp; try (with_reducible rfl))
                      try simp only [Act.put, List.setIfInBounds_toArray, List.set_cons_zero, List.set_cons_succ]
                      refine wpAnyH_take (i := 7) (oi := ⟨_, _, _, _, _, _⟩) (v := ?_) rfl (by kernel_rfl) (by kernel_rfl) (by kernel_rfl) (fun _ _ _ h => h) (Or.inl ⟨by rfl, ?_⟩) hHeld ?_
                      rotate_left
                      · (intro w hSw; (try dsimp only at hSw); go_simp; try (with_reducible rfl))
                      try simp only [Act.put, List.setIfInBounds_toArray, List.set_cons_zero, List.set_cons_succ]
                      refine wpAnyH_take (i := 8) (oi := ⟨_, _, _, _, _, _⟩) (v := ?_) rfl (by kernel_rfl) (by kernel_rfl) (by kernel_rfl) (fun _ _ _ h => h) (Or.inl ⟨by rfl, ?_⟩) hHeld ?_
                      rotate_left
                      · (intro w hSw; (try dsimp only at hSw); go_simp; try (with_reducible rfl))
                      try simp only [Act.put, List.setIfInBounds_toArray, List.set_cons_zero, List.set_cons_succ]
                      refine wpAnyH_take (i := 9) (oi := ⟨_, _, _, _, _, _⟩) (v := ?_) rfl (by kernel_rfl) (by kernel_rfl) (by kernel_rfl) (fun _ _ _ h => h) (Or.inl ⟨by rfl, ?_⟩) hHeld ?_
                      rotate_left
                      · (intro w hSw; (try dsimp only at hSw); have c0 := (hSw.cell (p := ⟨bm, offm + i * 2, none⟩) hbmw).trans c0; have d0 := (hSw.cell (p := ⟨bm, offm + j * 2, none⟩) hbmw).trans d0; have d1 := (hSw.cell (p := ⟨bm, offm + j * 2 + 1, none⟩) hbmw).trans d1; go_simp; try (with_reducible rfl))
                      try simp only [Act.put, List.setIfInBounds_toArray, List.set_cons_zero, List.set_cons_succ]
                      refine wpAnyH_take (i := 10) (oi := ⟨_, _, _, _, _, _⟩) (v := ?_) rfl (by kernel_rfl) (by kernel_rfl) (by kernel_rfl) (fun _ _ _ h => h) (Or.inl ⟨by rfl, ?_⟩) hHeld ?_
                      rotate_left
                      · (intro w hSw; (try dsimp only at hSw); go_simp; try (with_reducible rfl))
                      try simp only [Act.put, List.setIfInBounds_toArray, List.set_cons_zero, List.set_cons_succ]
                      refine wpAnyH_take (i := 11) (oi := ⟨_, _, _, _, _, _⟩) (v := ?_) rfl (by kernel_rfl) (by kernel_rfl) (by kernel_rfl) (fun _ _ _ h => h) (Or.inl ⟨by rfl, ?_⟩) hHeld ?_
                      rotate_left
                      · (intro w hSw; (try dsimp only at hSw); go_simp; try (with_reducible rfl))
                      try simp only [Act.put, List.setIfInBounds_toArray, List.set_cons_zero, List.set_cons_succ]
                      refine wpAnyH_take (i := 12) (oi := ⟨_, _, _, _, _, _⟩) (v := ?_) rfl (by kernel_rfl) (by kernel_rfl) (by kernel_rfl) (fun _ _ _ h => h) (Or.inl ⟨by rfl, ?_⟩) hHeld ?_
                      rotate_left
                      · (intro w hSw; (try dsimp only at hSw); go_simp; try (with_reducible rfl))
                      try simp only [Act.put, List.setIfInBounds_toArray, List.set_cons_zero, List.set_cons_succ]
                      refine wpAnyH_take (i := 13) (oi := ⟨_, _, _, _, _, _⟩) (v := ?_) rfl (by kernel_rfl) (by kernel_rfl) (by kernel_rfl) (fun _ _ _ h => h) (Or.inl ⟨by rfl, ?_⟩) hHeld ?_
                      rotate_left
                      · (intro w hSw; (try dsimp only at hSw); go_simp; try (with_reducible rfl))
                      try simp only [Act.put, List.setIfInBounds_toArray, List.set_cons_zero, List.set_cons_succ]
                      refine wpAnyH_take (i := 14) (oi := ⟨_, _, _, _, _, _⟩) (v := ?_) rfl (by kernel_rfl) (by kernel_rfl) (by kernel_rfl) (fun _ _ _ h => h) (Or.inl ⟨by rfl, ?_⟩) hHeld ?_
                      rotate_left
                      · (intro w hSw; (try dsimp only at hSw); have c0 := (hSw.cell (p := ⟨bm, offm + i * 2, none⟩) hbmw).trans c0; have d0 := (hSw.cell (p := ⟨bm, offm + j * 2, none⟩) hbmw).trans d0; have d1 := (hSw.cell (p := ⟨bm, offm + j * 2 + 1, none⟩) hbmw).trans d1; go_simp; try (with_reducible rfl))
                      try simp only [Act.put, List.setIfInBounds_toArray, List.set_cons_zero, List.set_cons_succ]
                      refine wpAnyH_ready (rs := [15]) (by kernel_rfl) (by simp) ?_
                      refine AllReadyH.cons (o := ⟨_, _, _, _, _, _⟩) rfl (fun K hK => ?_) AllReadyH.nil
                      go_simp
                      refine (within_any _ _ _ _).mono ?_
                      rintro e V99 ⟨rfl, hw⟩
                      have hb := below_of_eq hw
                      clear hw
                      go_wp2_with fail
                      have hHeldN := hHeld.trans (hb.mono hHeld.size)
                      have hbc := hbc.trans (hb.mono hbc.size)
                      refine hK.out _ _ ?_ (fun hHeld2 => ?_)
                      · exact hHeldN
                      clear hK K hHeld hHeldN hb; have hHeld := hHeld2; clear hHeld2
                      try simp only [Act.put, List.setIfInBounds_toArray, List.set_cons_zero, List.set_cons_succ]
                      refine wpAnyH_done (by kernel_rfl) ?_ _
                      rw [Hin.out]
                      go_wp2_with fail
                      exact ⟨⟨j + 1, by omega, by rw [Hh2.out], by go_num, Hb2.out.trans (hHeld.mono Hb2.out.size)⟩, by simp [intOf]; omega⟩
                    · rw [hin] at Hh
                      have Hh2 := hide (Hh.out.trans (if_pos rfl))
                      have Hin := hide hin
                      clear hin Hh
                      go_wp2_with fail
                      refine wp_region_held_drew (S := (fun W => Below wr.heap.size wr W)) (by kernel_rfl) (by (try dsimp only); exact (Below.refl _ _).drew) (fun hHeld => ?_)
                      generalize World.drew wr = Wd22 at hHeld ⊢
                      have hbc := Below.refl Wd22.heap.size Wd22
                      refine wpAnyH_take (i := 0) (oi := ⟨_, _, _, _, _, _⟩) (v := ?_) rfl (by kernel_rfl) (by kernel_rfl) (by kernel_rfl) (fun _ _ _ h => h) (Or.inl ⟨by rfl, ?_⟩) hHeld ?_
                      rotate_left
                      · (intro w hSw; (try dsimp only at hSw); go_simp; try (with_reducible rfl))
                      try simp only [Act.put, List.setIfInBounds_toArray, List.set_cons_zero, List.set_cons_succ]
                      refine wpAnyH_take (i := 1) (oi := ⟨_, _, _, _, _, _⟩) (v := ?_) rfl (by kernel_rfl) (by kernel_rfl) (by kernel_rfl) (fun _ _ _ h => h) (Or.inl ⟨by rfl, ?_⟩) hHeld ?_
                      rotate_left
                      · (intro w hSw; (try dsimp only at hSw); go_simp; try (with_reducible rfl))
                      try simp only [Act.put, List.setIfInBounds_toArray, List.set_cons_zero, List.set_cons_succ]
                      refine wpAnyH_take (i := 2) (oi := ⟨_, _, _, _, _, _⟩) (v := ?_) rfl (by kernel_rfl) (by kernel_rfl) (by kernel_rfl) (fun _ _ _ h => h) (Or.inl ⟨by rfl, ?_⟩) hHeld ?_
                      rotate_left
                      · (intro w hSw; (try dsimp only at hSw); go_simp; try (with_reducible rfl))
                      try simp only [Act.put, List.setIfInBounds_toArray, List.set_cons_zero, List.set_cons_succ]
                      refine wpAnyH_take (i := 3) (oi := ⟨_, _, _, _, _, _⟩) (v := ?_) rfl (by kernel_rfl) (by kernel_rfl) (by kernel_rfl) (fun _ _ _ h => h) (Or.inl ⟨by rfl, ?_⟩) hHeld ?_
                      rotate_left
                      · (intro w hSw; (try dsimp only at hSw); go_simp; try (with_reducible rfl))
                      try simp only [Act.put, List.setIfInBounds_toArray, List.set_cons_zero, List.set_cons_succ]
                      refine wpAnyH_take (i := 4) (oi := ⟨_, _, _, _, _, _⟩) (v := ?_) rfl (by kernel_rfl) (by kernel_rfl) (by kernel_rfl) (fun _ _ _ h => h) (Or.inl ⟨by rfl, ?_⟩) hHeld ?_
                      rotate_left
                      · (intro w hSw; (try dsimp only at hSw); have c0 := (hSw.cell (p := ⟨bm, offm + i * 2, none⟩) hbmw).trans c0; have d0 := (hSw.cell (p := ⟨bm, offm + j * 2, none⟩) hbmw).trans d0; have d1 := (hSw.cell (p := ⟨bm, offm + j * 2 + 1, none⟩) hbmw).trans d1; go_simp; try (with_reducible rfl))
                      try simp only [Act.put, List.setIfInBounds_toArray, List.set_cons_zero, List.set_cons_succ]
                      refine wpAnyH_take (i := 5) (oi := ⟨_, _, _, _, _, _⟩) (v := ?_) rfl (by kernel_rfl) (by kernel_rfl) (by kernel_rfl) (fun _ _ _ h => h) (Or.inl ⟨by rfl, ?_⟩) hHeld ?_
                      rotate_left
                      · (intro w hSw; (try dsimp only at hSw); go_simp; try (with_reducible rfl))
                      try simp only [Act.put, List.setIfInBounds_toArray, List.set_cons_zero, List.set_cons_succ]
                      refine wpAnyH_take (i := 6) (oi := ⟨_, _, _, _, _, _⟩) (v := ?_) rfl (by kernel_rfl) (by kernel_rfl) (by kernel_rfl) (fun _ _ _ h => h) (Or.inl ⟨by rfl, ?_⟩) hHeld ?_
                      rotate_left
                      · (intro w hSw; (try dsimp only at hSw); go_simp; try (with_reducible rfl))
                      try simp only [Act.put, List.setIfInBounds_toArray, List.set_cons_zero, List.set_cons_succ]
                      refine wpAnyH_take (i := 7) (oi := ⟨_, _, _, _, _, _⟩) (v := ?_) rfl (by kernel_rfl) (by kernel_rfl) (by kernel_rfl) (fun _ _ _ h => h) (Or.inl ⟨by rfl, ?_⟩) hHeld ?_
                      rotate_left
                      · (intro w hSw; (try dsimp only at hSw); go_simp; try (with_reducible rfl))
                      try simp only [Act.put, List.setIfInBounds_toArray, List.set_cons_zero, List.set_cons_succ]
                      refine wpAnyH_take (i := 8) (oi := ⟨_, _, _, _, _, _⟩) (v := ?_) rfl (by kernel_rfl) (by kernel_rfl) (by kernel_rfl) (fun _ _ _ h => h) (Or.inl ⟨by rfl, ?_⟩) hHeld ?_
                      rotate_left
                      · (intro w hSw; (try dsimp only at hSw); go_simp; try (with_reducible rfl))
                      try simp only [Act.put, List.setIfInBounds_toArray, List.set_cons_zero, List.set_cons_succ]
                      refine wpAnyH_take (i := 9) (oi := ⟨_, _, _, _, _, _⟩) (v := ?_) rfl (by kernel_rfl) (by kernel_rfl) (by kernel_rfl) (fun _ _ _ h => h) (Or.inl ⟨by rfl, ?_⟩) hHeld ?_
                      rotate_left
                      · (intro w hSw; (try dsimp only at hSw); have c0 := (hSw.cell (p := ⟨bm, offm + i * 2, none⟩) hbmw).trans c0; have d0 := (hSw.cell (p := ⟨bm, offm + j * 2, none⟩) hbmw).trans d0; have d1 := (hSw.cell (p := ⟨bm, offm + j * 2 + 1, none⟩) hbmw).trans d1; go_simp; try (with_reducible rfl))
                      try simp only [Act.put, List.setIfInBounds_toArray, List.set_cons_zero, List.set_cons_succ]
                      refine wpAnyH_take (i := 10) (oi := ⟨_, _, _, _, _, _⟩) (v := ?_) rfl (by kernel_rfl) (by kernel_rfl) (by kernel_rfl) (fun _ _ _ h => h) (Or.inl ⟨by rfl, ?_⟩) hHeld ?_
                      rotate_left
                      · (intro w hSw; (try dsimp only at hSw); go_simp; try (with_reducible rfl))
                      try simp only [Act.put, List.setIfInBounds_toArray, List.set_cons_zero, List.set_cons_succ]
                      refine wpAnyH_take (i := 11) (oi := ⟨_, _, _, _, _, _⟩) (v := ?_) rfl (by kernel_rfl) (by kernel_rfl) (by kernel_rfl) (fun _ _ _ h => h) (Or.inl ⟨by rfl, ?_⟩) hHeld ?_
                      rotate_left
                      · (intro w hSw; (try dsimp only at hSw); go_simp; try (with_reducible rfl))
                      try simp only [Act.put, List.setIfInBounds_toArray, List.set_cons_zero, List.set_cons_succ]
                      refine wpAnyH_take (i := 12) (oi := ⟨_, _, _, _, _, _⟩) (v := ?_) rfl (by kernel_rfl) (by kernel_rfl) (by kernel_rfl) (fun _ _ _ h => h) (Or.inl ⟨by rfl, ?_⟩) hHeld ?_
                      rotate_left
                      · (intro w hSw; (try dsimp only at hSw); go_simp; try (with_reducible rfl))
                      try simp only [Act.put, List.setIfInBounds_toArray, List.set_cons_zero, List.set_cons_succ]
                      refine wpAnyH_take (i := 13) (oi := ⟨_, _, _, _, _, _⟩) (v := ?_) rfl (by kernel_rfl) (by kernel_rfl) (by kernel_rfl) (fun _ _ _ h => h) (Or.inl ⟨by rfl, ?_⟩) hHeld ?_
                      rotate_left
                      · (intro w hSw; (try dsimp only at hSw); go_simp; try (with_reducible rfl))
                      try simp only [Act.put, List.setIfInBounds_toArray, List.set_cons_zero, List.set_cons_succ]
                      refine wpAnyH_take (i := 14) (oi := ⟨_, _, _, _, _, _⟩) (v := ?_) rfl (by kernel_rfl) (by kernel_rfl) (by kernel_rfl) (fun _ _ _ h => h) (Or.inl ⟨by rfl, ?_⟩) hHeld ?_
                      rotate_left
                      · (intro w hSw; (try dsimp only at hSw); have c0 := (hSw.cell (p := ⟨bm, offm + i * 2, none⟩) hbmw).trans c0; have d0 := (hSw.cell (p := ⟨bm, offm + j * 2, none⟩) hbmw).trans d0; have d1 := (hSw.cell (p := ⟨bm, offm + j * 2 + 1, none⟩) hbmw).trans d1; go_simp; try (with_reducible rfl))
                      try simp only [Act.put, List.setIfInBounds_toArray, List.set_cons_zero, List.set_cons_succ]
                      refine wpAnyH_ready (rs := [15]) (by kernel_rfl) (by simp) ?_
                      refine AllReadyH.cons (o := ⟨_, _, _, _, _, _⟩) rfl (fun K hK => ?_) AllReadyH.nil
                      go_simp
                      refine (within_any _ _ _ _).mono ?_
                      rintro e V99 ⟨rfl, hw⟩
                      have hb := below_of_eq hw
                      clear hw
                      go_wp2_with fail
                      have hHeldN := hHeld.trans (hb.mono hHeld.size)
                      have hbc := hbc.trans (hb.mono hbc.size)
                      refine hK.out _ _ ?_ (fun hHeld2 => ?_)
                      · exact hHeldN
                      clear hK K hHeld hHeldN hb; have hHeld := hHeld2; clear hHeld2
                      try simp only [Act.put, List.setIfInBounds_toArray, List.set_cons_zero, List.set_cons_succ]
                      refine wpAnyH_done (by kernel_rfl) ?_ _
                      rw [Hin.out]
                      go_wp2_with fail
                      exact ⟨⟨j + 1, by omega, by rw [Hh2.out]; go_num, by go_num, Hb2.out.trans (hHeld.mono Hb2.out.size)⟩, by simp [intOf]; omega⟩
                  · have eh : holds (hs.take j) x.lo = holds hs x.lo := by rw [List.take_of_length_le (by rw [Hzl.out]; omega)]
                    have hh1 : holds hs x.lo ≤ 1000 := by have := holds_len hs x.lo; have := Hzl.out; omega
                    have hs1 := crowdT_snoc Hxi.out
                    rw [eh]
                    have Hs1 := hide hs1
                    clear hs1 eh
                    go_wp2_with fail
                    exact ⟨⟨i + 1, by omega, by rw [Hs1.out]; congr 1; omega, by go_num, hb⟩, by simp [intOf]; omega⟩
              · have e1 := crowdT_all (ss := hs) (k := i) (by rw [Hzl.out]; omega)
                rw [e1, Hhs.out]
                have hB9 := HBo.out.trans (hb.mono HBo.out.size)
                have hcl : crowdS (hereK g s l t k) ≤ 12 := Nat.le_trans (crowd_len _) (by rw [← Hhs.out, Hzl.out]; exact hz12)
                clear e1
                by_cases hlt2 : crowdS (hereK g s l t k) < (nextGo g s l t k).2
                · have e1 := hide (show nextGo g s l t (k + 1) = (k, crowdS (hereK g s l t k)) by rw [nextGo, if_pos hlt2])
                  have hlt3 : (crowdS (hereK g s l t k) : Int) < ((nextGo g s l t k).2 : Int) := by omega
                  go_wp2_with fail
                  exact ⟨⟨k + 1, by rw [e1.out], by rw [e1.out], by go_num, by omega, hB9⟩, by simp [intOf]; omega⟩
                · have e1 := hide (show nextGo g s l t (k + 1) = nextGo g s l t k by rw [nextGo, if_neg hlt2])
                  have hlt3 : ¬ (crowdS (hereK g s l t k) : Int) < ((nextGo g s l t k).2 : Int) := by omega
                  go_wp2_with fail
                  exact ⟨⟨k + 1, by rw [e1.out], by rw [e1.out], by go_num, by omega, hB9⟩, by simp [intOf]; omega⟩
      · obtain rfl : k = n + 1 := by omega
        have e1 := hide (show nextS g s l t = nextGo g s l t (n + 1) by rw [nextS, if_pos He.out, Hn.out])
        go_wp2_with fail
        refine bodyPost_ret (v := .tuple #[.int .i64 ((nextGo g s l t (n + 1)).1 : Int), .int .i64 ((nextGo g s l t (n + 1)).2 : Int), .int .i64 0]) (by simp [results, Try.results30, go_sem]; try rfl) rfl ?_
        exact ⟨by rw [e1.out, He.out], hB2.trans ((hb3.trans (hb.mono hb3.size)).mono hB2.size)⟩
  · have He := hide he
    have hne : (falE g s l t == 0) = false := by simpa using he
    have hne2 : (falE g s l t != 0) = true := by simpa using he
    have El := hide (show falL g s l t = [] by unfold falL; rw [if_neg he])
    clear he
    go_enter Try.func30, Try.ntmps30
    go_wp2_with fail
    rw [ew1.out, e5.out, e57, ew2.out]
    refine HE.out.mono ?_
    rintro e w3 ⟨v, rfl, _, hb3⟩
    go_wp2_with fail
    refine bodyPost_ret (v := .tuple #[.int .i64 0, .int .i64 0, .int .i64 (falE g s l t)]) (by simp [results, Try.results30, go_sem]; try rfl) rfl ?_
    exact ⟨by simp only [nextS, if_neg He.out]; rfl, hB2.trans (hb3.mono hB2.size)⟩
end Go.Proofs.Ytkmocikcohhdoaa
