/- ChannelDries: a canal is said to be dry just where it carried no water in so many minutes before; with a cycle's minutes none is: the law returns true for every net and uses. No conditions. -/
import Derived.Test.YtgklcilpohkpkaaD2
import Derived.Test.YtgklcilpohkpkaaE2
import Derived.Test.YtgklcilpohkpkaaA3
import Derived.Test.YtgklcilpohkpkaaOpenU
import Derived.Carry
set_option linter.unusedVariables false
set_option linter.unusedSimpArgs false
namespace Go.Proofs.Ytgklcilpohkpkaa
open Go.RowKit Go.Shelf Go.WideShapes Go.ChangeShapes Go.ChangeAt
attribute [local go_sem ↓] Go.wp_at_zero Go.wp_at_succ
theorem ready_parts {cs : List Ca} {fs : List Int} {dry days a b : Int} {us : List Us} (h : readyB cs fs dry days a b us = true) : cs.length ≤ 24 ∧ fs.length ≤ 18 ∧ us.length ≤ 80 ∧ netOk cs fs dry days = true ∧ usesOk fs.length days us = true ∧ Sp.ok 0 13000000 ⟨a, b⟩ = true := by
  simp only [readyB, great, Bool.and_eq_true, Bool.not_eq_true', Bool.or_eq_false_iff, decide_eq_false_iff_not] at h
  obtain ⟨⟨⟨h1, h2⟩, h3⟩, h4, h5, h6⟩ := h
  exact ⟨by omega, by omega, by omega, h4, h5, h6⟩
theorem driesS_ok {cs : List Ca} {fs : List Int} {dry days : Int} {us : List Us} (hok : netOk cs fs dry days = true) (huo : usesOk fs.length days us = true) : driesS cs fs dry days us = ((List.range us.length).map (dryL cs fs dry (days * 1440) us), 0) := by
  unfold driesS
  rw [if_pos hok, if_pos huo]
set_option maxHeartbeats 4000000 in
set_option maxRecDepth 100000 in
theorem dries_walk (Ac Af Au : Option Addr) (nc cc nf cf nu cu : Nat) (dry days : Int) (cs : List Ca) (fs : List Int) (us : List Us) (w : World) (hnc : nc = cs.length) (hnf : nf = fs.length) (hnu : nu = us.length) (hcs : Rd w w.heap.size Ca.cells Ac cs) (hfs : Rd w w.heap.size icell Af fs) (hus : Rd w w.heap.size Us.cells Au us) :
    Calls Try.prog 8 #[.agg #[.slice Ac nc cc, .slice Af nf cf, .int .i64 dry, .int .i64 days], .slice Au nu cu] w fun e w' => e = .returned (.bool true) ∧ Below w.heap.size w w' := by
  obtain ⟨W, HW⟩ : ∃ W, Hid (w.alloc (.cells #[.slice Ac nc cc, .slice Af nf cf, .int .i64 dry, .int .i64 days] 25) = W) := ⟨_, hide rfl⟩
  have xn : At W w.heap.size [.slice Ac nc cc, .slice Af nf cf, .int .i64 dry, .int .i64 days] := by rw [← HW.out]; exact At.new w #[.slice Ac nc cc, .slice Af nf cf, .int .i64 dry, .int .i64 days] _ _ rfl _ rfl
  have hB : Below w.heap.size w W := by rw [← HW.out]; exact below_new w _
  have rc := hcs.bel hB
  have rf := hfs.bel hB
  have ru := hus.bel hB
  clear hcs hfs hus
  have Hc := hide hnc; have Hf := hide hnf; have Hu := hide hnu
  clear hnc hnf hnu
  go_enter Try.func8, Try.ntmps8
  go_wp2_with fail
  rw [HW.out]
  clear HW
  refine (alive_any _).mono ?_
  rintro e w1 ⟨rfl, hb⟩
  replace xn := xn.bel hb
  replace rc := rc.bel hb
  replace rf := rf.bel hb
  replace ru := ru.bel hb
  replace hB := hB.trans (hb.mono hB.size)
  clear hb
  have Hx := hide xn
  obtain ⟨rB, hrB⟩ : ∃ r, readyB cs fs dry days 0 0 us = r := ⟨_, rfl⟩
  have Hr := hide hrB
  clear hrB
  go_wp2_with fail
  refine wp_region_held_drew (S := (fun W => Below w1.heap.size w1 W)) (by kernel_rfl) (by (try dsimp only); exact (Below.refl _ _).drew) (fun hHeld => ?_)
  generalize World.drew w1 = Wd4 at hHeld ⊢
  have rc := rc.bel hHeld
  have rf := rf.bel hHeld
  have ru := ru.bel hHeld
  have xn := xn.bel hHeld
  have hbc := Below.refl Wd4.heap.size Wd4
  refine wpAnyH_take (i := 0) (oi := ⟨_, _, _, _, _, _⟩) (v := ?_) rfl (by kernel_rfl) (by kernel_rfl) (by kernel_rfl) (fun _ _ _ h => h) (Or.inl ⟨by rfl, ?_⟩) hHeld ?_
  rotate_left
  · (intro w hSw; (try dsimp only at hSw); obtain ⟨q0, q1, q2, q3⟩ := (Hx.out.below hSw).c4; go_simp; try (with_reducible rfl))
  try simp only [Act.put, List.setIfInBounds_toArray, List.set_cons_zero, List.set_cons_succ]
  refine wpAnyH_take (i := 2) (oi := ⟨_, _, _, _, _, _⟩) (v := ?_) rfl (by kernel_rfl) (by kernel_rfl) (by kernel_rfl) (fun _ _ _ h => h) (Or.inl ⟨by rfl, ?_⟩) hHeld ?_
  rotate_left
  · (intro w hSw; (try dsimp only at hSw); go_simp; try (with_reducible rfl))
  try simp only [Act.put, List.setIfInBounds_toArray, List.set_cons_zero, List.set_cons_succ]
  refine wpAnyH_ready (rs := [1]) (by kernel_rfl) (by simp) ?_
  refine AllReadyH.cons (o := ⟨_, _, _, _, _, _⟩) rfl (fun K hK => ?_) AllReadyH.nil
  go_simp
  refine (span_any _ _ _).mono ?_
  rintro e V20 ⟨rfl, hb⟩
  go_wp2_with fail
  have hHeldN := hHeld.trans (hb.mono hHeld.size)
  have rc := rc.bel hb
  have rf := rf.bel hb
  have ru := ru.bel hb
  have xn := xn.bel hb
  have hbc := hbc.trans (hb.mono hbc.size)
  refine hK.out _ _ ?_ (fun hHeld2 => ?_)
  · exact hHeldN
  clear hK K hHeld hHeldN hb; have hHeld := hHeld2; clear hHeld2
  try simp only [Act.put, List.setIfInBounds_toArray, List.set_cons_zero, List.set_cons_succ]
  refine wpAnyH_ready (rs := [3]) (by kernel_rfl) (by simp) ?_
  refine AllReadyH.cons (o := ⟨_, _, _, _, _, _⟩) rfl (fun K hK => ?_) AllReadyH.nil
  go_simp
  refine (ready_any _ _ _ _ _ _ _ _ _ _ _ _ _ cs fs us _ Hc.out Hf.out rc rf ru Hu.out).mono ?_
  rintro e V22 ⟨rfl, hb⟩
  rw [Hr.out]
  go_wp2_with fail
  have hHeldN := hHeld.trans (hb.mono hHeld.size)
  have rc := rc.bel hb
  have rf := rf.bel hb
  have ru := ru.bel hb
  have xn := xn.bel hb
  have hbc := hbc.trans (hb.mono hbc.size)
  refine hK.out _ _ ?_ (fun hHeld2 => ?_)
  · exact hHeldN
  clear hK K hHeld hHeldN hb; have hHeld := hHeld2; clear hHeld2
  try simp only [Act.put, List.setIfInBounds_toArray, List.set_cons_zero, List.set_cons_succ]
  refine wpAnyH_take (i := 4) (oi := ⟨_, _, _, _, _, _⟩) (v := ?_) rfl (by kernel_rfl) (by kernel_rfl) (by kernel_rfl) (fun _ _ _ h => h) (Or.inl ⟨by rfl, ?_⟩) hHeld ?_
  rotate_left
  · (intro w hSw; (try dsimp only at hSw); go_simp; try (with_reducible rfl))
  try simp only [Act.put, List.setIfInBounds_toArray, List.set_cons_zero, List.set_cons_succ]
  refine wpAnyH_done (by kernel_rfl) ?_ _
  replace hB := hB.trans (hHeld.mono hB.size)
  clear hbc hHeld Hx
  cases rB
  · go_wp2_with fail
    go_ret
    exact ⟨rfl, hB⟩
  obtain ⟨hcl, hfl, hul, hok, huo, _⟩ := ready_parts Hr.out
  have hnu80 : nu ≤ 80 := by have := Hu.out; omega
  have hd := (netOk_parts hok).2.2.2.1
  have hok2 : netOk cs fs 23040 days = true := netOk_dry hok (by omega) (by omega)
  have n1 : NetAt V22 Ac Af nc nf cs fs := ⟨rc, rf, Hc.out, Hf.out, by have := Hc.out; omega, by have := Hf.out; omega⟩
  have Hok := hide hok; have Huo := hide huo; have Hok2 := hide hok2
  have Hs1 := hide (driesS_ok hok huo); have Hs2 := hide (driesS_ok hok2 huo)
  obtain ⟨q0, q1, q2, q3⟩ := xn.c4
  clear hok huo hok2 rc rf hcl hfl hul
  go_wp2_with fail
  refine (dries_fn _ _ _ _ _ _ _ _ _ _ _ _ _ us _ n1 ru Hu.out (by omega)).mono ?_
  rintro e w3 ⟨v, rfl, ss, ho, rr, hb⟩
  simp only [Hs1.out] at ho rr ⊢
  obtain ⟨Al, cl, rfl, rl⟩ := ho.rdn nu (rr.len.trans (by rw [List.length_map, List.length_range]; exact Hu.out.symm))
  clear ho q0 q1 q2 q3
  replace xn := xn.bel hb
  replace n1 := n1.bel hb
  replace ru := ru.bel hb
  replace hB := hB.trans (hb.mono hB.size)
  clear hb
  obtain ⟨q0, q1, q2, q3⟩ := xn.c4
  go_wp2_with fail
  refine (twin_any _ _ _ _ _ _ _ _ _ _ _ n1).mono ?_
  rintro e w4 ⟨Bc, dc, Bf, df, rfl, n2, hb⟩
  clear q0 q1 q2 q3
  replace xn := xn.bel hb
  replace n1 := n1.bel hb
  replace ru := ru.bel hb
  replace rl := rl.bel hb
  replace rr := rr.bel hb
  replace hB := hB.trans (hb.mono hB.size)
  clear hb
  go_wp2_with fail
  obtain ⟨b8, w5, eb8, ew8, x8, _, hb⟩ := mk_box w4 #[.slice Bc nc dc, .slice Bf nf df, .int .i64 23040, .int .i64 days] 25
  rw [ew8.out, eb8.out]
  clear ew8 eb8 x8
  replace xn := xn.bel hb
  replace n1 := n1.bel hb
  replace n2 := n2.bel hb
  replace ru := ru.bel hb
  replace rl := rl.bel hb
  replace rr := rr.bel hb
  replace hB := hB.trans (hb.mono hB.size)
  clear hb
  go_wp2_with fail
  refine (dries_fn _ _ _ _ _ _ _ _ _ _ _ _ _ us _ n2 ru Hu.out (by omega)).mono ?_
  rintro e w6 ⟨v, rfl, tt, ho, rm, hb⟩
  simp only [Hs2.out] at ho rm ⊢
  obtain ⟨Am, cm, rfl, rt⟩ := ho.rdn nu (rm.len.trans (by rw [List.length_map, List.length_range]; exact Hu.out.symm))
  clear ho n2
  replace xn := xn.bel hb
  replace n1 := n1.bel hb
  replace ru := ru.bel hb
  replace rl := rl.bel hb
  replace rr := rr.bel hb
  replace hB := hB.trans (hb.mono hB.size)
  clear hb
  have Hxn := hide xn; have Hn1 := hide n1; have Hru := hide ru; have Hrl := hide rl; have Hrr := hide rr; have Hrt := hide rt; have Hrm := hide rm
  clear xn n1 ru rl rr rt rm
  go_wp2_with fail
  go_loopw [62] (fun i wr => ∃ j : Nat, j ≤ nu ∧ i = .int .i64 j ∧ Below w6.heap.size w6 wr) (fun i _ => nu - (intOf i).toNat)
  case atStart => exact ⟨0, by omega, rfl, Below.refl _ _⟩
  case round =>
    obtain ⟨j, hj, rfl, hb⟩ := hrel
    obtain ⟨wo, rfl⟩ : ∃ wo, wo = wr := ⟨wr, rfl⟩
    by_cases hlt : j < nu
    · obtain ⟨b, off, f, s, t, rfl, hbB, hx, c0, c1, c2⟩ := (Hru.out.bel hb).us (i := j) (by have := Hu.out; omega)
      have hm := usesOk_mem Huo.out (List.mem_of_getElem? hx)
      obtain ⟨⟨f0, f1⟩, hs0, hst, htc⟩ := hm
      dsimp only at f0 f1 hs0 hst htc
      have Hxj := hide hx
      have i0 : (0 : Int) ≤ (j : Int) := by omega
      have i1 : (j : Int) < (nu : Int) := by omega
      obtain ⟨b12, w7, eb12, ew12, x12, _, hb1⟩ := mk_box wo #[.int .i64 f, .int .i64 s, .int .i64 t] 74
      have xn := (Hxn.out.bel hb).bel hb1
      have e1 := xn
      rw [← ew12.out] at e1
      obtain ⟨z0, z1, z2, z3⟩ := e1.c4
      obtain ⟨q0, q1, q2, q3⟩ := (Hxn.out.bel hb).c4
      clear hx e1
      go_wp2_with fail
      rw [ew12.out, eb12.out]
      clear z0 z1 z2 z3 q0 q1 q2 q3 ew12 eb12 c0 c1 c2
      have n1 := (Hn1.out.bel hb).bel hb1
      refine (along_any Ac Af nc cc nf cf dry days cs fs f _ n1 Hok.out f0 (by have := Hf.out; omega)).mono ?_
      rintro e w8 ⟨v, rfl, hown, hb2⟩
      obtain ⟨p, hpe⟩ : ∃ p, p = pathK cs fs f := ⟨_, rfl⟩
      rw [← hpe] at hown
      obtain ⟨n, hn⟩ : ∃ n, n = p.length := ⟨_, rfl⟩
      obtain ⟨Ap, cp, rfl, hp⟩ := hown.rdn n hn.symm
      have hn16 : n ≤ 16 := by rw [hn, hpe]; exact pathK_len cs fs Hok.out f0 f1
      have hb8 : Below w6.heap.size w6 w8 := by
        have h := hb.trans (hb1.mono hb.size)
        exact h.trans (hb2.mono h.size)
      have Hp := hide hp; have Hnp := hide hn; have Hpe := hide hpe; have Hx12 := hide (x12.bel hb2)
      clear hown hp hn hpe hb1 hb2 n1 xn x12 hb
      go_wp2_with fail
      go_loopw [13, 72] (fun v i W2 => ∃ q : Nat, q ≤ n ∧ i = .int .i64 q ∧ Own W2 w8.heap.size 3 1 icell v ((p.take q).filter (fun x => parTo cs fs dry (days * 1440) us j ⟨f, s, t⟩ x us.length)) ∧ Below w8.heap.size w8 W2) (fun _ i _ => n - (intOf i).toNat)
      case atStart => exact ⟨0, by omega, rfl, Own.nil _ _ _ _ _, Below.refl _ _⟩
      case round =>
        obtain ⟨q, hq, rfl, hown, hb2⟩ := hrel
        have Hown := hide hown
        have hb6 := hb8.trans (hb2.mono hb8.size)
        clear hown
        by_cases hql : q < n
        · obtain ⟨bp, offp, x, rfl, hbp, hxp, d0⟩ := (Hp.out.bel hb2).int (i := q) (by have := Hnp.out; omega)
          have j0 : (0 : Int) ≤ (q : Int) := by omega
          have j1 : (q : Int) < (n : Int) := by omega
          have Hxp := hide hxp
          obtain ⟨q0, q1, q2, q3⟩ := (Hxn.out.bel hb6).c4
          have hsz := hb2.size
          clear hxp
          go_wp2_with fail
          refine (parched_any Ac Af _ nc cc nf cf nu cu j dry days x f s t cs fs us _ (Hn1.out.bel hb6) (Hru.out.bel hb6) Hu.out Hok.out (by rw [Hf.out]; exact Huo.out) Hxj.out).mono ?_
          rintro e w9 ⟨rfl, hb3⟩
          obtain ⟨pr, hpr⟩ : ∃ pr, pr = parTo cs fs dry (days * 1440) us j ⟨f, s, t⟩ x us.length := ⟨_, rfl⟩
          rw [← hpr]
          have Hpr := hide hpr
          have Hown9 := hide (Hown.out.below hb3)
          have hb9 := hb2.trans (hb3.mono hb2.size)
          clear hpr q0 q1 q2 q3 hb3 d0
          cases pr
          · go_wp2_with fail
            refine ⟨⟨q + 1, by omega, by go_num, ?_, hb9⟩, by simp [intOf]; omega⟩
            rw [filter_snoc Hxp.out, ← Hpr.out]
            simpa using Hown9.out
          · have hr := hide (Rd.new (cells := icell) w9 #[.int .i64 x] 3 [x] rfl)
            have hsz9 := hb9.size
            have hlx : ((p.take q).filter (fun x => parTo cs fs dry (days * 1440) us j ⟨f, s, t⟩ x us.length)).length ≤ 16 := by
              have h1 := List.length_filter_le (fun x => parTo cs fs dry (days * 1440) us j ⟨f, s, t⟩ x us.length) (p.take q)
              rw [List.length_take] at h1
              omega
            go_wp2_with (at_builtin; refine wpList_app (v := u13) (xs := (p.take q).filter (fun x => parTo cs fs dry (days * 1440) us j ⟨f, s, t⟩ x us.length)) (ys := [x]) (n := 1) el_int rfl (.tmp 81) (.tmp 83) rfl rfl (Hown9.out.alloc _) rfl rfl hr.out (by omega) (by simp; omega) ?_; intro vv wv hown1 hg1 hat1; have Hw := hide (below_own (Hown9.out.alloc _) (hb9.alloc hb9.size _) hg1 (by simp; omega)); have Hown1 := hide hown1; clear hown1 hg1 hat1)
            refine ⟨⟨q + 1, by omega, by go_num, ?_, Hw.out⟩, by simp [intOf]; omega⟩
            rw [filter_snoc Hxp.out, ← Hpr.out]
            exact Hown1.out
        · obtain rfl : q = n := by omega
          have hpt : p.take q = p := List.take_of_length_le (by have := Hnp.out; omega)
          have hpl := par_list Hok.out Huo.out Hxj.out
          have hown := Hown.out
          rw [hpt, Hpe.out, hpl] at hown
          obtain ⟨m, hm⟩ : ∃ m, m = (dryL cs fs dry (days * 1440) us j).length := ⟨_, rfl⟩
          obtain ⟨Aw, cw, rfl, hw⟩ := hown.rdn m hm.symm
          have hj2 : j < us.length := by have := Hu.out; omega
          have hr1 : ((List.range us.length).map (dryL cs fs dry (days * 1440) us))[j]? = some (dryL cs fs dry (days * 1440) us j) := by simp [hj2]
          have hr2 : ((List.range us.length).map (dryL cs fs 23040 (days * 1440) us))[j]? = some [] := by simp [hj2, dry_none Hok2.out Huo.out j]
          obtain ⟨bl, offl, a1, m1, c1, rfl, hbl, hxl, d0⟩ := (Hrl.out.bel hb6).sl (i := j) (by have := Hrr.out.len; rw [List.length_map, List.length_range] at this; omega)
          obtain ⟨bt, offt, a2, m2, c2, rfl, hbt, hxt, e0⟩ := (Hrt.out.bel hb6).sl (i := j) (by have := Hrm.out.len; rw [List.length_map, List.length_range] at this; omega)
          obtain ⟨hm1, hrd1⟩ := (Hrr.out.bel hb6).row j _ _ hxl hr1
          obtain ⟨hm2, _⟩ := (Hrm.out.bel hb6).row j _ _ hxt hr2
          dsimp only at hm1 hrd1 hm2
          simp only [List.length_nil] at hm2
          subst hm2
          have hmm : m1 = m := by omega
          subst hmm
          have Hm := hide hm; have Hw := hide hw; have Hrd1 := hide hrd1
          have hfl : (dryL cs fs dry (days * 1440) us j).length ≤ (pathK cs fs f).length := by rw [← hpl]; exact List.length_filter_le _ _
          have hl16 : m1 ≤ 1000 := by
            have h2 := Hnp.out
            rw [Hpe.out] at h2
            omega
          clear hpl hown hpt hr1 hr2 hm hw hrd1 hm1 hxl hxt
          go_wp2_with fail
          refine (sInts _ _ (dryL cs fs dry (days * 1440) us j) _ _ _ _ _ Hrd1.out Hw.out Hm.out Hm.out (by have := Hm.out; omega)).mono ?_
          rintro e w9 ⟨rfl, hb3⟩
          have e1 := (hb3.cell (p := ⟨bt, offt + j, none⟩) (by show bt < _; omega)).trans e0
          clear e0 d0
          go_wp2_with fail
          refine ⟨⟨j + 1, by omega, by go_num, hb6.trans (hb3.mono hb6.size)⟩, by simp [intOf]; omega⟩
    · obtain rfl : j = nu := by omega
      go_wp2_with fail
      go_ret
      exact ⟨rfl, hB.trans (hb.mono hB.size)⟩
set_option maxRecDepth 100000 in
theorem channelDries_lifted (os : Os) (started : os.Started) (H : Type) (enc : TypeId × Value → H) :
    ReturnsInHanded {} Try.checked os 8 .any (Rows.channelDriesSpec.pre6 enc Try.prog Try.f8 Rows.channelDriesRow.domain false) (Rows.channelDriesSpec.post enc Try.prog Try.f8 false true false false) := by
  refine law_lifted os started H enc (s := Rows.channelDriesSpec) Try.func8 (by kernel_rfl) ?_ rfl Try.underlying4 rfl (of_decide_eq_true (by kernel_rfl))
    (ChangeSpec.witness6 (enc := enc) (C := Try.checked) false ⟨#[], #[.agg #[.slice none 0 0, .slice none 0 0, .int .i64 0, .int .i64 0], .slice none 0 0], []⟩ 8 (by kernel_rfl) (by kernel_rfl) (by kernel_rfl) (by kernel_rfl)) ?_
  · intro ds hds
    match ds, hds with
    | [a, b], _ => rfl
  · intro W base args ds ps hval hA hlt
    rw [Try.params8] at hA hval
    obtain ⟨v0, v1, d0, d1, p0, p1, rfl, rfl, rfl, h0, h1⟩ := trodAll_two hA
    obtain ⟨Ac, nc, cc, Af, nf, cf, dry, days, cs, fs, rfl, hnc, hnf, _, _, hcs, hfs, _, _, _, _⟩ := open_net (hval 0 _ v0 rfl rfl) h0
    obtain ⟨Au, nu, cu, us, rfl, hnu, _, hus, _⟩ := open_sl shape_us Try.underlying26 cells_us Us.len (by omega) (hval 1 _ v1 rfl rfl) h1
    exact dries_walk Ac Af Au nc cc nf cf nu cu dry days cs fs us W hnc hnf hnu hcs hfs hus

theorem channelDries_holds : Rows.ChannelDriesSaid :=
  OpenClaim.holds_of_wide 8 Try.f8 rfl rfl rfl rfl rfl rfl rfl ⟨rfl, rfl, rfl, rfl, rfl⟩ rfl rfl rfl rfl rfl (by kernel_rfl) Try.func8 (by kernel_rfl)
    (of_decide_eq_true (by kernel_rfl)) (by unfold Func.isWrapper; rw [if_neg (of_decide_eq_false (by kernel_rfl))]; exact ⟨rfl, rfl⟩)
    (fun os started H enc _ => channelDries_lifted os started H enc)
#print axioms channelDries_holds
end Go.Proofs.Ytgklcilpohkpkaa
