/- SaltFed: a plan for what all fields want, used one turn after the other, gives each field its need, and its salt is at most the limit afterwards, for sure. The law returns true for every net, flow, soils and rents. No conditions. -/
import Derived.Test.YtmbhnjpaieimbaaPD2
import Derived.Test.YtmbhnjpaieimbaaPBH
import Derived.Test.YtmbhnjpaieimbaaFE2
import Derived.Test.YtmbhnjpaieimbaaW7
import Derived.Test.YtmbhnjpaieimbaaR1
import Derived.Test.YtmbhnjpaieimbaaOpenC
import Derived.Test.YtmbhnjpaieimbaaOpenR
import Derived.Deep.Cut
import Derived.BigQuiet
set_option linter.unusedVariables false
set_option linter.unusedSimpArgs false
namespace Go.Proofs.Ytmbhnjpaieimbaa
open Go.RowKit Go.Shelf Go.WideShapes Go.ChangeShapes Go.ChangeAt
theorem Rows.belR {α : Type} {w w' : World} {cells : α → List Value} {ss : List Sl} {xss : List (List α)} (h : Rows w w.heap.size cells ss xss) (hb : Below w.heap.size w w') : Rows w' w'.heap.size cells ss xss := (h.below hb).more hb.size
theorem got_bd {ns : List Int} {rs : List Rr} {p : List (List Int)} (h : Planned ns rs p) (hn : ∀ k, 0 ≤ ns.getD k 0 ∧ ns.getD k 0 ≤ 23040) {k : Nat} (hk : k < ns.length) : ∀ j, j ≤ rs.length → 0 ≤ gotTo p j k ∧ gotTo p j k ≤ 23040 := fun j hj => by
  have h0 : ∀ i, i < rs.length → 0 ≤ cellAt p i k := fun i hi => (h.ok i hi k hk).1
  have h1 := h.got k hk
  have key : ∀ d i, i + d = rs.length → gotTo p i k ≤ gotTo p rs.length k := fun d => by
    induction d with
    | zero => intro i hi; rw [show i = rs.length by omega]; exact Int.le_refl _
    | succ d ih =>
      intro i hi
      have h2 := ih (i + 1) (by omega)
      have h3 := h0 i (by omega)
      have h4 : gotTo p (i + 1) k = gotTo p i k + cellAt p i k := rfl
      omega
  have h2 := key (rs.length - j) j (by omega)
  have h3 : gotTo p rs.length k = ns.getD k 0 := h1
  have h4 : 0 ≤ gotTo p j k := sumTo_nonneg fun i hi => h0 i (by omega)
  have := hn k
  omega
set_option maxHeartbeats 40000000 in
set_option maxRecDepth 100000 in
theorem sfed_walk (Ac Af A A2 : Option Addr) (nc cc nf cf n c r c2 : Nat) (dry days a b : Int) (cs : List Ca) (fs : List Int) (ss : List So) (rs : List Rr) (w : World) (hnc : nc = cs.length) (hnf : nf = fs.length) (hcs : Rd w w.heap.size Ca.cells Ac cs) (hfs : Rd w w.heap.size icell Af fs)
    (hn : n = ss.length) (hm : n ≤ 9223372036854775807) (hx : Rd w w.heap.size So.cells A ss) (hR : RsAt0 w A2 r rs) (hr2 : r ≤ 9223372036854775807) :
    Calls Try.prog 13 #[.agg #[.slice Ac nc cc, .slice Af nf cf, .int .i64 dry, .int .i64 days], .agg #[.int .i64 a, .int .i64 b], .slice A n c, .slice A2 r c2] w fun e w' => e = .returned (.bool true) ∧ Below w.heap.size w w' := by
  obtain ⟨b4, w1, e4, ew1, hx4, hb1, hz1⟩ := mk_bx w #[.slice Ac nc cc, .slice Af nf cf, .int .i64 dry, .int .i64 days] 43
  obtain ⟨b5, w2, e5, ew2, hx5, hb2, hz2⟩ := mk_bx w1 #[.int .i64 a, .int .i64 b] 23
  have e45 : b4 + 1 = b5 := by have := e5.out; omega
  have hB2 := hb1.trans (hb2.mono hb1.size)
  have rc2 := hcs.bel hB2; have rf2 := hfs.bel hB2
  have Rs := hide (hx.bel hB2); have RR := hide (hR.bel hB2)
  have X4 := hide (hx4.bel hb2); have X5 := hide hx5
  have Hn := hide hn; have Hnc := hide hnc; have Hnf := hide hnf; have HB2 := hide hB2
  clear hn hcs hfs hx hb1 hb2 hz1 hz2 hnc hnf hR hx4 hx5 hB2
  go_enter Try.func13, Try.ntmps13
  go_wp2_with fail
  rw [ew1.out, e4.out, e45, ew2.out]
  refine (salive_any _).mono ?_
  rintro e w3 ⟨rfl, hb3⟩
  have H3 := hide hb3
  obtain ⟨q0, q1, q2, q3⟩ := (X4.out.bel H3.out).at_.c4
  clear hb3
  go_wp2_with fail
  refine (rGreat_any Ac Af none nc cc nf cf 0 0 dry days cs fs w3 Hnc.out Hnf.out).mono ?_
  rintro e w4 ⟨rfl, hb4⟩
  have H4 := hide (H3.out.trans (hb4.mono H3.out.size))
  clear q0 q1 q2 q3 hb4
  cases hg : great cs fs 0
  rotate_left
  · clear hg
    go_wp2_with fail
    go_ret
    exact ⟨rfl, HB2.out.trans (H4.out.mono HB2.out.size)⟩
  have hl : cs.length ≤ 24 ∧ fs.length ≤ 18 := by simp [great] at hg; omega
  have N2 : Hid (NetAt w2 Ac Af nc nf cs fs) := hide ⟨rc2, rf2, Hnc.out, Hnf.out, by have := Hnc.out; omega, by have := Hnf.out; omega⟩
  have Hfl := hide hl.2
  clear hg hl rc2 rf2
  by_cases h8 : 8 < n
  · go_wp2_with fail
    go_ret
    exact ⟨rfl, HB2.out.trans (H4.out.mono HB2.out.size)⟩
  have hn8 : n ≤ 8 := by omega
  obtain ⟨q0, q1, q2, q3⟩ := (X4.out.bel H4.out).at_.c4
  obtain ⟨p0, p1, _, _⟩ := (X5.out.bel H4.out).w2
  go_wp2_with fail
  refine (wants_fn Ac Af A nc _ nf _ n _ dry days a b cs fs ss w4 (N2.out.bel H4.out) Hn.out (by omega) (Rs.out.bel H4.out)).mono ?_
  rintro e w5 ⟨v, out, i, er, rfl, ho, hw, hb5⟩
  have H5 := hide (H4.out.trans (hb5.mono H4.out.size))
  clear q0 q1 q2 q3 p0 p1 hb5
  by_cases he : er = 0
  rotate_left
  · obtain ⟨Ao, co, rfl, _⟩ := ho.rdn 0 (by rw [wants_nz hw he]; rfl)
    have t1 : (er != 0) = true := by simpa using he
    clear hw ho he
    go_wp2_with fail
    go_ret
    exact ⟨rfl, HB2.out.trans (H5.out.mono HB2.out.size)⟩
  subst he
  obtain ⟨hok, hsp, hle, hso, rfl, hwo⟩ := wants_zero hw
  have hol : out.length = n := by rw [hwo.len, Hn.out]
  obtain ⟨Ao, co, rfl, ro⟩ := ho.rdn n hol
  have Hok := hide hok; have Hsp := hide hsp; have Hle := hide hle; have Hso := hide hso; have Hwo := hide hwo; have Hol := hide hol; have Ro := hide ro
  have tn : ((n : Int) != (n : Int)) = false := by simp
  have tn2 : ((n : Int) == (n : Int)) = true := by simp
  clear hw ho hok hsp hle hso hwo hol ro
  go_wp2_with fail
  refine (sready_any Ao A2 n _ r _ out rs w5 Ro.out Hol.out.symm hm (RR.out.bel H5.out) hr2).mono ?_
  rintro e w6 ⟨rfl, hb6⟩
  have H6 := hide (H5.out.trans (hb6.mono H5.out.size)); have H56 := hide hb6
  clear hb6
  cases hrd : (!greatF out rs && rentsOk out rs)
  · clear hrd
    go_wp2_with fail
    go_ret
    exact ⟨rfl, HB2.out.trans (H6.out.mono HB2.out.size)⟩
  rw [Bool.and_eq_true, Bool.not_eq_true'] at hrd
  have HR := hide (RR.out.small (ns := out) hrd.1).1
  have Hro := hide (RentsOk.of hrd.2)
  have hr8 : r ≤ 8 := by rw [HR.out.en]; exact Hro.out.rl
  clear hrd
  go_wp2_with fail
  refine (plan_any Ao A2 n _ r _ out rs w6 (Ro.out.bel H56.out) Hol.out.symm hm (HR.out.bel H6.out) hr2).mono ?_
  rintro e w7 ⟨vA, rfl, ⟨ssA, oA, rA⟩, hb7⟩
  have H7 := hide (H6.out.trans (hb7.mono H6.out.size)); have H57 := hide (H56.out.trans (hb7.mono H56.out.size))
  obtain ⟨A4, c4, rfl, pA⟩ := oA.rdn _ rfl
  have ssAl : ssA.length = (planF out rs).1.length := rA.len
  rw [ssAl]
  clear hb7 oA ssAl
  by_cases hf : (boR out rs).Feas (capsR rs)
  rotate_left
  · have hpn := plan_none Hro.out hf
    rw [hpn]
    clear hpn hf pA rA
    go_wp2_with fail
    go_ret
    exact ⟨rfl, HB2.out.trans (H7.out.mono HB2.out.size)⟩
  obtain ⟨p, cst, hpf, hpl, _, _⟩ := plan_planned Hro.out hf
  rw [hpf] at rA ⊢
  have Hpl := hide hpl
  have hpr : p.length = r := by rw [hpl.len, HR.out.en]
  have hp1 : (p, cst, (0 : Int)).1.length = r := hpr
  rw [hp1]
  have Hpr := hide hpr
  have PA := hide pA; have RA := hide rA
  clear hpf hpl hpr hp1 hf pA rA
  go_wp2_with fail
  refine (rplanned_any Ao A2 A4 n _ r _ r _ out rs ssA p w7 (Ro.out.bel H57.out) Hol.out.symm Hro.out (HR.out.bel H7.out) Hpr.out.symm PA.out RA.out).mono ?_
  rintro e w8 ⟨c', bb, rfl, _, hnn, hb8⟩
  have H8 := hide (H7.out.trans (hb8.mono H7.out.size)); have H78 := hide hb8
  cases bb
  · exact absurd Hpl.out (hnn rfl).1
  have Hfb : Hid (∀ k, 0 ≤ out.getD k 0 ∧ out.getD k 0 ≤ 23040) := hide (fed_bd (a := a) (b := b) Hok.out (fun k s hs => by
    obtain ⟨_, x, _, _, _, _, h1, h2, h3, _⟩ := want_gets Hok.out Hsp.out Hle.out Hso.out Hwo.out hs
    exact ⟨x, h1, h2, h3⟩) (by rw [Hol.out]; exact Hn.out))
  have PA8 := hide (PA.out.bel H78.out); have RA8 := hide (RA.out.belR H78.out)
  clear hnn hb8
  go_wp2_with fail
  go_loopw [18, 19, 114] (fun uv nv kv wr => ∃ (k : Nat) (pv : Value) (now : Int), pv = uv ∧ k ≤ n ∧ kv = .int .i64 k ∧ nv = .int .i64 now ∧ Hid (now = (fedU out k).2) ∧ Hid (Own wr w8.heap.size 98 3 Us.cells pv (fedU out k).1) ∧ Below w8.heap.size w8 wr) (fun _ _ kv _ => n - (intOf kv).toNat)
  case atStart => exact ⟨0, _, 0, rfl, by omega, rfl, rfl, hide rfl, hide (Own.nil _ _ _ _ _), Below.refl _ _⟩
  case round =>
    obtain ⟨k, pv, now, rfl, hk, rfl, rfl, Hnow, HO, hb⟩ := hrel
    have hnb : 0 ≤ now ∧ now ≤ k * 23040 := by rw [Hnow.out]; exact fedU_now Hfb.out k
    by_cases hkn : k < n
    · have ik : (k : Int) < (n : Int) := by omega
      have HB := hide hb
      obtain ⟨wo, rfl⟩ : ∃ wo, wo = wr := ⟨wr, rfl⟩
      have Hgb := hide (got_bd Hpl.out Hfb.out (k := k) (by rw [Hol.out]; exact hkn))
      clear hb
      go_wp2_with fail
      go_loopw [21, 119] (fun mv jv wr => ∃ (j : Nat) (g : Int), j ≤ r ∧ jv = .int .i64 j ∧ mv = .int .i64 g ∧ Hid (g = gotTo p j k) ∧ Below wo.heap.size wo wr) (fun _ jv _ => r - (intOf jv).toNat)
      case atStart => exact ⟨0, 0, by omega, rfl, rfl, hide rfl, Below.refl _ _⟩
      case round =>
        obtain ⟨j, g, hj, rfl, rfl, Hg, hb⟩ := hrel
        have hgb : 0 ≤ g ∧ g ≤ 23040 := by rw [Hg.out]; exact Hgb.out j (by rw [← HR.out.en]; exact hj)
        by_cases hjr : j < r
        · have ij : (j : Int) < (r : Int) := by omega
          have Hb := hide hb
          obtain ⟨bp, op, ap, np, cp, hAp, _, hxp, cp0⟩ := ((PA8.out.bel HB.out).bel hb).sl (i := j) (by rw [RA8.out.len, Hpr.out]; exact hjr)
          obtain ⟨pa, hpa⟩ : ∃ pa, p[j]? = some pa := ⟨_, List.getElem?_eq_getElem (by rw [Hpr.out]; exact hjr)⟩
          obtain ⟨en, rrow⟩ := ((RA8.out.belR HB.out).belR hb).row j _ pa hxp hpa
          have hml : pa.length = n := by
            have h1 := Hpl.out.row j (by rw [← HR.out.en]; exact hjr)
            rw [List.getD_eq_getElem?_getD, hpa] at h1
            rw [← Hol.out]; exact h1
          have en2 : n = np := by rw [← hml]; exact en.symm
          obtain ⟨bx, ox, y, hAx, _, hxx, cx⟩ := rrow.int (i := k) (by rw [hml]; exact hkn)
          have Hy : Hid (cellAt p j k = y) := hide (by unfold cellAt; rw [show p.getD j [] = pa by rw [List.getD_eq_getElem?_getD, hpa]; rfl, List.getD_eq_getElem?_getD, hxx]; rfl)
          have hgs : gotTo p (j + 1) k = g + y := by rw [Hg.out, ← Hy.out]; rfl
          have hg2 := Hgb.out (j + 1) (by rw [← HR.out.en]; omega)
          rw [hgs] at hg2
          have fw : IntKind.i64.wrap (g + y) = g + y := wrapI (by omega)
          have Hgs := hide hgs
          subst en2 hAp hAx
          clear hxp en hml rrow hpa hb hxx hgs
          go_wp2_with fail
          exact ⟨⟨j + 1, g + y, by omega, by go_num, rfl, hide Hgs.out.symm, Hb.out⟩, by simp [intOf]; omega⟩
        · obtain rfl : r = j := by omega
          have hgx : g = out.getD k 0 := by rw [Hg.out, HR.out.en]; exact Hpl.out.got k (by rw [Hol.out]; exact hkn)
          have H9 := hide (HB.out.trans (hb.mono HB.out.size)); have Hb := hide hb
          clear hb
          by_cases hg0 : g = 0
          · subst hg0
            have Hs : Hid (fedU out (k + 1) = fedU out k) := hide (by show (if out.getD k 0 = 0 then _ else _) = _; rw [if_pos hgx.symm])
            clear hgx
            go_wp2_with fail
            exact ⟨⟨k + 1, pv, now, rfl, by omega, by go_num, rfl, by rw [Hs.out]; exact Hnow, by rw [Hs.out]; exact hide (HO.out.bel Hb.out), H9.out⟩, by simp [intOf]; omega⟩
          · have t0 : (g == 0) = false := by simpa using hg0
            have Hs : Hid (fedU out (k + 1) = ((fedU out k).1 ++ [⟨(k : Int), now, now + g⟩], now + g)) := hide (by show (if out.getD k 0 = 0 then _ else _) = _; rw [if_neg (by rw [← hgx]; exact hg0), ← hgx, ← Hnow.out])
            have fw : IntKind.i64.wrap (now + g) = now + g := wrapI (by omega)
            have hul : (fedU out k).1.length + 1 ≤ 1000000 := by have := fedU_len out k; omega
            have hsz := H9.out.size
            have Ob := hide (HO.out.bel Hb.out)
            clear hgx hg0
            go_wp2_with (at_builtin; refine wpList_app1l (v := pv) (xs := (fedU out k).1) (base := w8.heap.size) (k := 3) (bytes := 24) (E := 98) el_us rfl (.tmp 132) (.tmp 140) rfl rfl rfl Ob.out ⟨(k : Int), now, now + g⟩ rfl hul hsz ?_; intro v' w10 o10 k10 hat; have O10 := hide o10; have K10 := hide k10; clear o10 k10 hat)
            have hK : Below w8.heap.size w8 w10 := H9.out.trans (K10.out.below (fun b hb e => by have := (Ob.out.blockG e).1; omega) hsz)
            exact ⟨⟨k + 1, v', now + g, rfl, by omega, by go_num, rfl, hide (by rw [Hs.out]), by rw [Hs.out]; exact O10, hK⟩, by simp [intOf]; omega⟩
    · obtain rfl : n = k := by omega
      obtain ⟨w9, rfl⟩ : ∃ w9, w9 = wr := ⟨wr, rfl⟩
      have H9 := hide (H8.out.trans (hb.mono H8.out.size))
      obtain ⟨nu, hnu⟩ : ∃ nu, nu = (fedU out n).1.length := ⟨_, rfl⟩
      obtain ⟨Au, cu, rfl, ru⟩ := HO.out.rdn nu hnu.symm
      have hnu8 : nu ≤ 8 := by rw [hnu]; have := fedU_len out n; omega
      have Hnu := hide hnu; have Ru := hide ru
      have hdy := (netOk_parts Hok.out).2.2.2.1
      have fm : IntKind.i64.wrap (days * 1440) = days * 1440 := wrapI (by omega)
      obtain ⟨q0, q1, q2, q3⟩ := (X4.out.bel H9.out).at_.c4
      obtain ⟨p0, p1, _, _⟩ := (X5.out.bel H9.out).w2
      clear hnu ru hb HO
      by_cases hlong : days * 1440 < now
      · have d1 : decide (days * 1440 < now) = true := decide_eq_true hlong
        clear hlong
        go_wp2_with fail
        go_ret
        exact ⟨rfl, HB2.out.trans (H9.out.mono HB2.out.size)⟩
      have d1 : decide (days * 1440 < now) = false := decide_eq_false hlong
      have Huo : Hid (usesOk (fs.length : Int) days (fedU out n).1 = true) := hide (by
        have h1 := fedU_ok Hfb.out (days := days) (k := n) (by omega) (by rw [← Hnow.out]; omega)
        rw [Hol.out, Hn.out, Hle.out] at h1
        rw [Hn.out, Hle.out]
        exact h1)
      clear hlong hnb
      go_wp2_with fail
      refine (waters_fn Ac Af Au nc _ nf _ nu _ dry days a b cs fs (fedU out n).1 w9 (N2.out.bel H9.out) Ru.out Hnu.out (by omega)).mono ?_
      rintro e w10 ⟨v1, v2, rfl, o1, o2, hb10⟩
      have H10 := hide (H9.out.trans (hb10.mono H9.out.size))
      have hws : watersS cs fs dry days a b (fedU out n).1 = (watersK cs fs dry (days * 1440) a b (fedU out n).1 (fedU out n).1.length, 0) := by
        unfold watersS; rw [if_pos Hok.out, if_pos Hsp.out, if_pos Huo.out]
      rw [hws] at o1 ⊢
      obtain ⟨L, hL⟩ : ∃ L, L = (watersK cs fs dry (days * 1440) a b (fedU out n).1 (fedU out n).1.length).1 := ⟨_, rfl⟩
      have hLl : L.length = n := by rw [hL, (watersK_bd (dry := dry) Hok.out Huo.out Hsp.out _ (Nat.le_refl _)).2.2.1, ← Hle.out]; exact Hn.out.symm
      have o1' : Own w10 w9.heap.size 23 2 Sp.cells v1 L := by rw [hL]; exact o1
      obtain ⟨A24, c24, rfl, r24⟩ := o1'.rdn n hLl
      have R24 := hide r24; have HLl := hide hLl
      have Hgt : Hid (∀ (k : Nat) (s : So) (nd : Int), ss[k]? = some s → needF s = (nd, 0) → nd ≤ (atS L k).lo ∧ (atS L k).lo ≤ (atS L k).hi) := hide fun k s nd hs hnd => by
        obtain ⟨nd', x, e1, _, _, _, e2, _, _, e3⟩ := want_gets Hok.out Hsp.out Hle.out Hso.out Hwo.out hs
        rw [hnd] at e1
        injection e1 with e1 _
        subst e1
        have h1 := fed_gets (dry := dry) Hok.out Hsp.out Hle.out Hso.out Hwo.out (by rw [← Hn.out]; exact Huo.out) hs e2 e3
        rw [← Hn.out] at h1
        rw [hL]
        exact ⟨h1, waters_le (dry := dry) Hok.out Huo.out Hsp.out _ (Nat.le_refl _) k⟩
      clear hws o1 o1' o2 hL hLl r24 hb10 q0 q1 q2 q3 p0 p1
      go_wp2_with fail
      go_loopw [171] (fun kv wr => ∃ k : Nat, k ≤ n ∧ kv = .int .i64 k ∧ Below w10.heap.size w10 wr) (fun kv _ => n - (intOf kv).toNat)
      case atStart => exact ⟨0, by omega, rfl, Below.refl _ _⟩
      case round =>
        obtain ⟨k, hk, rfl, hb⟩ := hrel
        have Hb := hide hb
        by_cases hkn : k < n
        · have ik : (k : Int) < (n : Int) := by omega
          obtain ⟨bs, os, s, hAs, hbs, hxs, c0, c1, c2', c3, c4', c5, c6, c7, c8, c9⟩ := ((Rs.out.bel H10.out).bel hb).so2 (i := k) (by rw [← Hn.out]; exact hkn)
          obtain ⟨nd, x, hnd, hcr, hmx, hfi, _⟩ := want_gets Hok.out Hsp.out Hle.out Hso.out Hwo.out hxs
          have hsk := Hso.out s (List.mem_of_getElem? hxs)
          have hfit := So.fit_of hsk
          obtain ⟨g1, g2⟩ := Hgt.out k s nd hxs hnd
          obtain ⟨bl, ol, lo, hi, hAl, hbl, hxl, l0, l1⟩ := (R24.out.bel hb).sp (i := k) (by rw [HLl.out]; exact hkn)
          have hatk : atS L k = ⟨lo, hi⟩ := by unfold atS; rw [hxl]; rfl
          rw [hatk] at g1 g2
          have g1' : nd ≤ lo := g1
          have g2' : lo ≤ hi := g2
          have hcr0 := hfit.cr.1
          have Hsk := hide hsk; have Hnd := hide hnd; have Hfi := hide hfi; have Hlim := hide (So.limit_of hsk)
          obtain ⟨b28, v0, e28, ev0, hx28, hb0, hz0⟩ := mk_bx wr #[.int .i64 s.salt.lo, .int .i64 s.salt.hi, .int .i64 s.limit, .int .i64 s.crop, .int .i64 s.mineral.lo, .int .i64 s.mineral.hi, .int .i64 s.wash.lo, .int .i64 s.wash.hi, .int .i64 s.rise.lo, .int .i64 s.rise.hi] 25
          have H0 := hide (hb.trans (hb0.mono hb.size))
          have X28 := hide hx28
          have L0 := hide (show wr.cell? ⟨bl, ol + k * 2, none⟩ = some (.int .i64 lo) ∧ wr.cell? ⟨bl, ol + k * 2 + 1, none⟩ = some (.int .i64 hi) ∧ bl < wr.heap.size from ⟨l0, l1, hbl⟩)
          have Hb0 := hide hb0
          subst hAs
          clear hxs hsk hfit g1 g2 hatk hnd hfi hb hbs hxl l0 l1 hbl hb0 hz0 hx28
          go_upto_region 40 with fail
          rw [ev0.out, e28.out]
          obtain ⟨z0, z1, z2, z3, z4, z5, z6, z7, z8, z9⟩ := X28.out.at_.c10
          clear c0 c1 c2' c3 c4' c5 c6 c7 c8 c9
          go_wp2_with fail
          refine (need_soil s _).mono ?_
          rintro e vn ⟨rfl, hbn⟩
          rw [Hnd.out]
          have Hn1 := hide (H0.out.trans (hbn.mono H0.out.size)); have Hn0 := hide (Hb0.out.trans (hbn.mono Hb0.out.size))
          have Xn := hide (X28.out.bel hbn)
          have l0 := (Hn0.out.cell (p := ⟨bl, ol + k * 2, none⟩) L0.out.2.2).trans L0.out.1
          have dl : decide (lo < nd) = false := decide_eq_false (by omega)
          clear z0 z1 z2 z3 z4 z5 z6 z7 z8 z9 hbn
          subst hAl
          have Hw1 : Hid (Sp.ok 0 1000000000 ⟨nd, nd⟩ = true) := hide (by simp [Sp.ok]; omega)
          go_upto_region 43 with fail
          refine wp_region_held_drew (S := (fun W => Below vn.heap.size vn W)) (by kernel_rfl) (by (try dsimp only); exact (Below.refl _ _).drew) (fun hHeld => ?_)
          generalize World.drew vn = Wd43 at hHeld ⊢
          have hbc := Below.refl Wd43.heap.size Wd43
          refine wpAnyH_take (i := 0) (oi := ⟨_, _, _, _, _, _⟩) (v := ?_) rfl (by kernel_rfl) (by kernel_rfl) (by kernel_rfl) (fun _ _ _ h => h) (Or.inl ⟨by rfl, ?_⟩) hHeld ?_
          rotate_left
          · (intro w hSw; (try dsimp only at hSw); obtain ⟨y0, y1, y2, y3, y4, y5, y6, y7, y8, y9⟩ := (Xn.out.bel hSw).at_.c10; go_simp; try (with_reducible rfl))
          try simp only [Act.put, List.setIfInBounds_toArray, List.set_cons_zero, List.set_cons_succ]
          refine wpAnyH_take (i := 1) (oi := ⟨_, _, _, _, _, _⟩) (v := ?_) rfl (by kernel_rfl) (by kernel_rfl) (by kernel_rfl) (fun _ _ _ h => h) (Or.inl ⟨by rfl, ?_⟩) hHeld ?_
          rotate_left
          · (intro w hSw; (try dsimp only at hSw); go_simp; try (with_reducible rfl))
          try simp only [Act.put, List.setIfInBounds_toArray, List.set_cons_zero, List.set_cons_succ]
          refine wpAnyH_take (i := 2) (oi := ⟨_, _, _, _, _, _⟩) (v := ?_) rfl (by kernel_rfl) (by kernel_rfl) (by kernel_rfl) (fun _ _ _ h => h) (Or.inl ⟨by rfl, ?_⟩) hHeld ?_
          rotate_left
          · (intro w hSw; (try dsimp only at hSw); go_simp; try (with_reducible rfl))
          try simp only [Act.put, List.setIfInBounds_toArray, List.set_cons_zero, List.set_cons_succ]
          refine wpAnyH_ready (rs := [3]) (by kernel_rfl) (by simp) ?_
          refine AllReadyH.cons (o := ⟨_, _, _, _, _, _⟩) rfl (fun K hK => ?_) AllReadyH.nil
          go_simp
          refine (sspan_any _ _ _).mono ?_
          rintro e V196 ⟨rfl, hb⟩
          go_wp2_with fail
          have hHeldN := hHeld.trans (hb.mono hHeld.size)
          have hbc := hbc.trans (hb.mono hbc.size)
          refine hK.out _ _ ?_ (fun hHeld2 => ?_)
          · exact hHeldN
          clear hK K hHeld hHeldN hb; have hHeld := hHeld2; clear hHeld2
          try simp only [Act.put, List.setIfInBounds_toArray, List.set_cons_zero, List.set_cons_succ]
          refine wpAnyH_ready (rs := [4]) (by kernel_rfl) (by simp) ?_
          refine AllReadyH.cons (o := ⟨_, _, _, _, _, _⟩) rfl (fun K hK => ?_) AllReadyH.nil
          go_simp
          refine (after_soil s ⟨nd, nd⟩ 1 _ Hsk.out Hw1.out (by omega)).mono ?_
          rintro e V197 ⟨Al, cl, rfl, rl, hb⟩
          go_wp2_with fail
          have hHeldN := hHeld.trans (hb.mono hHeld.size)
          have hbc := hbc.trans (hb.mono hbc.size)
          refine hK.out _ _ ?_ (fun hHeld2 => ?_)
          · exact hHeldN
          clear hK K hHeld hHeldN hb; have hHeld := hHeld2; clear hHeld2
          try simp only [Act.put, List.setIfInBounds_toArray, List.set_cons_zero, List.set_cons_succ]
          refine wpAnyH_take (i := 5) (oi := ⟨_, _, _, _, _, _⟩) (v := ?_) rfl (by kernel_rfl) (by kernel_rfl) (by kernel_rfl) (fun _ _ _ h => h) (Or.inl ⟨by rfl, ?_⟩) hHeld ?_
          rotate_left
          · (intro w hSw; (try dsimp only at hSw); go_simp; try (with_reducible rfl))
          try simp only [Act.put, List.setIfInBounds_toArray, List.set_cons_zero, List.set_cons_succ]
          refine wpAnyH_take (i := 6) (oi := ⟨_, _, _, _, _, _⟩) (v := ?_) rfl (by kernel_rfl) (by kernel_rfl) (by kernel_rfl) (fun _ _ _ h => h) (Or.inl ⟨by rfl, ?_⟩) hHeld ?_
          rotate_left
          · (intro w hSw; (try dsimp only at hSw); go_simp; try (with_reducible rfl))
          try simp only [Act.put, List.setIfInBounds_toArray, List.set_cons_zero, List.set_cons_succ]
          refine wpAnyH_take (i := 7) (oi := ⟨_, _, _, _, _, _⟩) (v := ?_) rfl (by kernel_rfl) (by kernel_rfl) (by kernel_rfl) (fun _ _ _ h => h) (Or.inl ⟨by rfl, ?_⟩) hHeld ?_
          rotate_left
          · (intro w hSw; (try dsimp only at hSw); go_simp; try (with_reducible rfl))
          try simp only [Act.put, List.setIfInBounds_toArray, List.set_cons_zero, List.set_cons_succ]
          refine wpAnyH_take (i := 8) (oi := ⟨_, _, _, _, _, _⟩) (v := ?_) rfl (by kernel_rfl) (by kernel_rfl) (by kernel_rfl) (fun _ _ _ h => h) (Or.inl ⟨by rfl, ?_⟩) hHeld ?_
          rotate_left
          · (intro w hSw; (try dsimp only at hSw); go_simp; try (with_reducible rfl))
          try simp only [Act.put, List.setIfInBounds_toArray, List.set_cons_zero, List.set_cons_succ]
          refine wpAnyH_take (i := 9) (oi := ⟨_, _, _, _, _, _⟩) (v := ?_) rfl (by kernel_rfl) (by kernel_rfl) (by kernel_rfl) (fun _ _ _ h => h) (Or.inl ⟨by rfl, ?_⟩) hHeld ?_
          rotate_left
          · (intro w hSw; (try dsimp only at hSw); go_simp; try (with_reducible rfl))
          try simp only [Act.put, List.setIfInBounds_toArray, List.set_cons_zero, List.set_cons_succ]
          refine wpAnyH_done (by kernel_rfl) ?_ _
          obtain ⟨ba, oa, lo1, hi1, hAa, hba, hpk, a0, a1⟩ := rl.sp (i := 0) (by rw [afterL_len]; omega)
          have h1 := (cycle_one (s := s) (v := nd) Hlim.out.1).2 Hfi.out
          rw [after_one hpk] at h1
          have dm : decide (s.limit < hi1) = false := decide_eq_false (by have h2 : hi1 ≤ s.limit := h1; omega)
          obtain ⟨z0, z1, z2, z3, z4, z5, z6, z7, z8, z9⟩ := (Xn.out.bel hHeld).at_.c10
          have Hv := hide (Hn0.out.trans (hHeld.mono Hn0.out.size)); have Hv1 := hide (Hn1.out.trans (hHeld.mono Hn1.out.size)); have Xv := hide (Xn.out.bel hHeld)
          obtain ⟨vm, hvm⟩ : ∃ vm, Hid (V197 = vm) := ⟨_, hide rfl⟩
          rw [hvm.out] at a0 a1 z0 z1 z2 z3 z4 z5 z6 z7 z8 z9 Hv Hv1 Xv ⊢
          subst hAa
          clear rl hpk h1 hHeld hbc hvm l0 dl hba
          go_upto_region 44 with fail
          go_quiet (fail)
          clear a0 a1 z0 z1 z2 z3 z4 z5 z6 z7 z8 z9
          obtain ⟨vq, hvq⟩ : ∃ vq, Hid (vm.drewN nq = vq) := ⟨_, hide rfl⟩
          have hbq : Below vm.heap.size vm vq := by rw [← hvq.out]; exact below_drewN (Below.refl _ _) nq
          rw [hvq.out]
          have Xq := hide (Xv.out.bel hbq); have Hq := hide (Hv.out.trans (hbq.mono Hv.out.size)); have Hq1 := hide (Hv1.out.trans (hbq.mono Hv1.out.size))
          obtain ⟨z0, z1, z2, z3, z4, z5, z6, z7, z8, z9⟩ := Xq.out.at_.c10
          have l1 := (Hq.out.cell (p := ⟨bl, ol + k * 2 + 1, none⟩) L0.out.2.2).trans L0.out.2.1
          have dq : decide (hi ≤ 1000000000) = true ∨ decide (hi ≤ 1000000000) = false := by cases decide (hi ≤ 1000000000) <;> simp
          have dr : decide (s.mineral.hi ≤ s.wash.lo) = true ∨ decide (s.mineral.hi ≤ s.wash.lo) = false := by cases decide (s.mineral.hi ≤ s.wash.lo) <;> simp
          clear hbq hvq dm
          rcases dq with dq | dq
          rotate_left
          · clear dr
            go_wp2_with fail
            exact ⟨⟨k + 1, by omega, by go_num, Hq1.out⟩, by simp [intOf]; omega⟩
          rcases dr with dr | dr
          rotate_left
          · go_wp2_with fail
            exact ⟨⟨k + 1, by omega, by go_num, Hq1.out⟩, by simp [intOf]; omega⟩
          have hh := of_decide_eq_true dq
          have hmw := of_decide_eq_true dr
          have Hw2 : Hid (Sp.ok 0 1000000000 ⟨nd, hi⟩ = true) := hide (by simp [Sp.ok]; omega)
          have Hmore := hide (cycle_more (s := s) Hlim.out.1 Hfi.out hcr (by omega : nd ≤ hi) hmw)
          have Hl1 := hide l1
          clear hh hmw
          go_upto_region 47 with fail
          clear dq dr z0 z1 z2 z3 z4 z5 z6 z7 z8 z9 l1
          refine wp_region_held_drew (S := (fun W => Below vq.heap.size vq W)) (by kernel_rfl) (by (try dsimp only); exact (Below.refl _ _).drew) (fun hHeld => ?_)
          generalize World.drew vq = Wd47 at hHeld ⊢
          have hbc := Below.refl Wd47.heap.size Wd47
          refine wpAnyH_take (i := 0) (oi := ⟨_, _, _, _, _, _⟩) (v := ?_) rfl (by kernel_rfl) (by kernel_rfl) (by kernel_rfl) (fun _ _ _ h => h) (Or.inl ⟨by rfl, ?_⟩) hHeld ?_
          rotate_left
          · (intro w hSw; (try dsimp only at hSw); obtain ⟨y0, y1, y2, y3, y4, y5, y6, y7, y8, y9⟩ := (Xq.out.bel hSw).at_.c10; have l1 := (hSw.cell (p := ⟨bl, ol + k * 2 + 1, none⟩) (World.block_lt_of_cell? vq ⟨bl, ol + k * 2 + 1, none⟩ Hl1.out)).trans Hl1.out; go_simp; try (with_reducible rfl))
          try simp only [Act.put, List.setIfInBounds_toArray, List.set_cons_zero, List.set_cons_succ]
          refine wpAnyH_take (i := 1) (oi := ⟨_, _, _, _, _, _⟩) (v := ?_) rfl (by kernel_rfl) (by kernel_rfl) (by kernel_rfl) (fun _ _ _ h => h) (Or.inl ⟨by rfl, ?_⟩) hHeld ?_
          rotate_left
          · (intro w hSw; (try dsimp only at hSw); go_simp; try (with_reducible rfl))
          try simp only [Act.put, List.setIfInBounds_toArray, List.set_cons_zero, List.set_cons_succ]
          refine wpAnyH_take (i := 2) (oi := ⟨_, _, _, _, _, _⟩) (v := ?_) rfl (by kernel_rfl) (by kernel_rfl) (by kernel_rfl) (fun _ _ _ h => h) (Or.inl ⟨by rfl, ?_⟩) hHeld ?_
          rotate_left
          · (intro w hSw; (try dsimp only at hSw); go_simp; try (with_reducible rfl))
          try simp only [Act.put, List.setIfInBounds_toArray, List.set_cons_zero, List.set_cons_succ]
          refine wpAnyH_take (i := 3) (oi := ⟨_, _, _, _, _, _⟩) (v := ?_) rfl (by kernel_rfl) (by kernel_rfl) (by kernel_rfl) (fun _ _ _ h => h) (Or.inl ⟨by rfl, ?_⟩) hHeld ?_
          rotate_left
          · (intro w hSw; (try dsimp only at hSw); go_simp; try (with_reducible rfl))
          try simp only [Act.put, List.setIfInBounds_toArray, List.set_cons_zero, List.set_cons_succ]
          refine wpAnyH_take (i := 4) (oi := ⟨_, _, _, _, _, _⟩) (v := ?_) rfl (by kernel_rfl) (by kernel_rfl) (by kernel_rfl) (fun _ _ _ h => h) (Or.inl ⟨by rfl, ?_⟩) hHeld ?_
          rotate_left
          · (intro w hSw; (try dsimp only at hSw); go_simp; try (with_reducible rfl))
          try simp only [Act.put, List.setIfInBounds_toArray, List.set_cons_zero, List.set_cons_succ]
          refine wpAnyH_take (i := 5) (oi := ⟨_, _, _, _, _, _⟩) (v := ?_) rfl (by kernel_rfl) (by kernel_rfl) (by kernel_rfl) (fun _ _ _ h => h) (Or.inl ⟨by rfl, ?_⟩) hHeld ?_
          rotate_left
          · (intro w hSw; (try dsimp only at hSw); go_simp; try (with_reducible rfl))
          try simp only [Act.put, List.setIfInBounds_toArray, List.set_cons_zero, List.set_cons_succ]
          refine wpAnyH_take (i := 6) (oi := ⟨_, _, _, _, _, _⟩) (v := ?_) rfl (by kernel_rfl) (by kernel_rfl) (by kernel_rfl) (fun _ _ _ h => h) (Or.inl ⟨by rfl, ?_⟩) hHeld ?_
          rotate_left
          · (intro w hSw; (try dsimp only at hSw); obtain ⟨y0, y1, y2, y3, y4, y5, y6, y7, y8, y9⟩ := (Xq.out.bel hSw).at_.c10; have l1 := (hSw.cell (p := ⟨bl, ol + k * 2 + 1, none⟩) (World.block_lt_of_cell? vq ⟨bl, ol + k * 2 + 1, none⟩ Hl1.out)).trans Hl1.out; go_simp; try (with_reducible rfl))
          try simp only [Act.put, List.setIfInBounds_toArray, List.set_cons_zero, List.set_cons_succ]
          refine wpAnyH_ready (rs := [7]) (by kernel_rfl) (by simp) ?_
          refine AllReadyH.cons (o := ⟨_, _, _, _, _, _⟩) rfl (fun K hK => ?_) AllReadyH.nil
          go_simp
          refine (sspan_any _ _ _).mono ?_
          rintro e V239 ⟨rfl, hb⟩
          go_wp2_with fail
          have hHeldN := hHeld.trans (hb.mono hHeld.size)
          have hbc := hbc.trans (hb.mono hbc.size)
          refine hK.out _ _ ?_ (fun hHeld2 => ?_)
          · exact hHeldN
          clear hK K hHeld hHeldN hb; have hHeld := hHeld2; clear hHeld2
          try simp only [Act.put, List.setIfInBounds_toArray, List.set_cons_zero, List.set_cons_succ]
          refine wpAnyH_ready (rs := [8]) (by kernel_rfl) (by simp) ?_
          refine AllReadyH.cons (o := ⟨_, _, _, _, _, _⟩) rfl (fun K hK => ?_) AllReadyH.nil
          go_simp
          refine (after_soil s ⟨nd, hi⟩ 1 _ Hsk.out Hw2.out (by omega)).mono ?_
          rintro e V240 ⟨Al, cl, rfl, rl, hb⟩
          go_wp2_with fail
          have hHeldN := hHeld.trans (hb.mono hHeld.size)
          have hbc := hbc.trans (hb.mono hbc.size)
          refine hK.out _ _ ?_ (fun hHeld2 => ?_)
          · exact hHeldN
          clear hK K hHeld hHeldN hb; have hHeld := hHeld2; clear hHeld2
          try simp only [Act.put, List.setIfInBounds_toArray, List.set_cons_zero, List.set_cons_succ]
          refine wpAnyH_take (i := 9) (oi := ⟨_, _, _, _, _, _⟩) (v := ?_) rfl (by kernel_rfl) (by kernel_rfl) (by kernel_rfl) (fun _ _ _ h => h) (Or.inl ⟨by rfl, ?_⟩) hHeld ?_
          rotate_left
          · (intro w hSw; (try dsimp only at hSw); go_simp; try (with_reducible rfl))
          try simp only [Act.put, List.setIfInBounds_toArray, List.set_cons_zero, List.set_cons_succ]
          refine wpAnyH_take (i := 10) (oi := ⟨_, _, _, _, _, _⟩) (v := ?_) rfl (by kernel_rfl) (by kernel_rfl) (by kernel_rfl) (fun _ _ _ h => h) (Or.inl ⟨by rfl, ?_⟩) hHeld ?_
          rotate_left
          · (intro w hSw; (try dsimp only at hSw); go_simp; try (with_reducible rfl))
          try simp only [Act.put, List.setIfInBounds_toArray, List.set_cons_zero, List.set_cons_succ]
          refine wpAnyH_take (i := 11) (oi := ⟨_, _, _, _, _, _⟩) (v := ?_) rfl (by kernel_rfl) (by kernel_rfl) (by kernel_rfl) (fun _ _ _ h => h) (Or.inl ⟨by rfl, ?_⟩) hHeld ?_
          rotate_left
          · (intro w hSw; (try dsimp only at hSw); go_simp; try (with_reducible rfl))
          try simp only [Act.put, List.setIfInBounds_toArray, List.set_cons_zero, List.set_cons_succ]
          refine wpAnyH_take (i := 12) (oi := ⟨_, _, _, _, _, _⟩) (v := ?_) rfl (by kernel_rfl) (by kernel_rfl) (by kernel_rfl) (fun _ _ _ h => h) (Or.inl ⟨by rfl, ?_⟩) hHeld ?_
          rotate_left
          · (intro w hSw; (try dsimp only at hSw); go_simp; try (with_reducible rfl))
          try simp only [Act.put, List.setIfInBounds_toArray, List.set_cons_zero, List.set_cons_succ]
          refine wpAnyH_take (i := 13) (oi := ⟨_, _, _, _, _, _⟩) (v := ?_) rfl (by kernel_rfl) (by kernel_rfl) (by kernel_rfl) (fun _ _ _ h => h) (Or.inl ⟨by rfl, ?_⟩) hHeld ?_
          rotate_left
          · (intro w hSw; (try dsimp only at hSw); go_simp; try (with_reducible rfl))
          try simp only [Act.put, List.setIfInBounds_toArray, List.set_cons_zero, List.set_cons_succ]
          refine wpAnyH_done (by kernel_rfl) ?_ _
          obtain ⟨ba, oa, lo1, hi1, hAa, hba, hpk, a0, a1⟩ := rl.sp (i := 0) (by rw [afterL_len]; omega)
          have h1 := Hmore.out
          rw [after_one hpk] at h1
          have dm : decide (s.limit < hi1) = false := decide_eq_false (by have h2 : hi1 ≤ s.limit := h1; omega)
          obtain ⟨z0, z1, z2, z3, z4, z5, z6, z7, z8, z9⟩ := (Xq.out.bel hHeld).at_.c10
          have Hv2 := hide (Hq1.out.trans (hHeld.mono Hq1.out.size))
          obtain ⟨vr, hvr⟩ : ∃ vr, Hid (V240 = vr) := ⟨_, hide rfl⟩
          rw [hvr.out] at a0 a1 z0 z1 z2 z3 z4 z5 z6 z7 z8 z9 Hv2 ⊢
          subst hAa
          clear rl hpk h1 hHeld hbc hvr hba
          go_upto_region 48 with fail
          go_quiet (fail)
          go_wp2_with fail
          exact ⟨⟨k + 1, by omega, by go_num, below_drewN Hv2.out _⟩, by simp [intOf]; omega⟩
        · clear hb
          go_wp2_with fail
          go_ret
          exact ⟨rfl, HB2.out.trans ((H10.out.trans (Hb.out.mono H10.out.size)).mono HB2.out.size)⟩
set_option maxRecDepth 100000 in
theorem saltFed_lifted (os : Os) (started : os.Started) (H : Type) (enc : TypeId × Value → H) :
    ReturnsInHanded {} Try.checked os 13 .any (Rows.saltFedSpec.pre6 enc Try.prog Try.f13 Rows.saltFedRow.domain false) (Rows.saltFedSpec.post enc Try.prog Try.f13 false true false false) := by
  refine law_lifted os started H enc (s := Rows.saltFedSpec) Try.func13 (by kernel_rfl) ?_ rfl Try.underlying4 rfl (of_decide_eq_true (by kernel_rfl))
    (ChangeSpec.witness6 (enc := enc) (C := Try.checked) false ⟨#[], #[.agg #[.slice none 0 0, .slice none 0 0, .int .i64 0, .int .i64 0], .agg #[.int .i64 0, .int .i64 0], .slice none 0 0, .slice none 0 0], []⟩ 8 (by kernel_rfl) (by kernel_rfl) (by kernel_rfl) (by kernel_rfl)) ?_
  · intro ds hds
    match ds, hds with
    | [a, b, c, d], _ => rfl
  · intro W base args ds ps hval hA hlt
    rw [Try.params13] at hA hval
    obtain ⟨v0, v1, v2, v3, d0, d1, d2, d3, p0, p1, p2, p3, rfl, rfl, rfl, h0, h1, h2, h3⟩ := trodAll_four hA
    obtain ⟨Ac, nc, cc, Af, nf, cf, dry, days, cs, fs, rfl, hnc, hnf, _, _, hcs, hfs, _, _, _, _⟩ := open_net (hval 0 _ v0 rfl rfl) h0
    obtain ⟨⟨a, b⟩, e1, _⟩ := open_val shape_sp Try.underlying23 (hval 1 _ v1 rfl rfl) h1
    rw [show (v1 : Value) = .agg #[.int .i64 a, .int .i64 b] from e1]
    obtain ⟨A, n, c, ss, rfl, hn, hm, hx, _⟩ := open_sl shape_so Try.underlying44 cells_so So.len (by omega) (hval 2 _ v2 rfl rfl) h2
    obtain ⟨A2, r, c2, rs, rfl, hr2, hR, _⟩ := open_rents (hval 3 _ v3 rfl rfl) h3
    exact sfed_walk Ac Af A A2 nc cc nf cf n c r c2 dry days a b cs fs ss rs W hnc hnf hcs hfs hn hm hx hR hr2

theorem saltFed_holds : Rows.SaltFedSaid :=
  OpenClaim.holds_of_wide 13 Try.f13 rfl rfl rfl rfl rfl rfl rfl ⟨rfl, rfl, rfl, rfl, rfl⟩ rfl rfl rfl rfl rfl (by kernel_rfl) Try.func13 (by kernel_rfl)
    (of_decide_eq_true (by kernel_rfl)) (by unfold Func.isWrapper; rw [if_neg (of_decide_eq_false (by kernel_rfl))]; exact ⟨rfl, rfl⟩)
    (fun os started H enc _ => saltFed_lifted os started H enc)
#print axioms saltFed_holds
end Go.Proofs.Ytmbhnjpaieimbaa
