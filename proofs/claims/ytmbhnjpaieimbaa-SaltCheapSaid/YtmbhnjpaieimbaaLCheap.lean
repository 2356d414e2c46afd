/- SaltCheap: no other plan is cheaper, nor as cheap and comes before it: one that is made of the plan by moving minutes from rent to rent. The law returns true for all needs and rents, and what is moved. No conditions. -/
import Derived.Test.YtmbhnjpaieimbaaPD2
import Derived.Test.YtmbhnjpaieimbaaPBH
import Derived.Test.YtmbhnjpaieimbaaOpenR
import Derived.Test.YtmbhnjpaieimbaaPF1
import Derived.Test.YtmbhnjpaieimbaaPF2
import Derived.Deep.Cut
import Derived.BigQuiet
set_option linter.unusedVariables false
set_option linter.unusedSimpArgs false
namespace Go.Proofs.Ytmbhnjpaieimbaa
open Go.RowKit Go.Shelf Go.WideShapes Go.ChangeShapes Go.ChangeAt
/-- The tables agree in all that lies ahead of a place. -/
def Agr (p q : List (List Int)) (r m a k : Nat) : Prop := ∀ j l, j < r → l < m → (j < a ∨ j = a ∧ l < k) → cellAt p j l = cellAt q j l
theorem Agr.start {p q : List (List Int)} {r m : Nat} : Agr p q r m 0 0 := fun j l _ _ h => by omega
theorem Agr.next {p q : List (List Int)} {r m a k : Nat} (h : Agr p q r m a k) (e : cellAt p a k = cellAt q a k) : Agr p q r m a (k + 1) := fun j l hj hl hh => by
  by_cases h1 : j < a ∨ j = a ∧ l < k
  · exact h j l hj hl h1
  · obtain ⟨rfl, rfl⟩ : j = a ∧ l = k := by omega
    exact e
theorem Agr.row {p q : List (List Int)} {r m a : Nat} (h : Agr p q r m a m) : Agr p q r m (a + 1) 0 := fun j l hj hl hh => h j l hj hl (by omega)
theorem Rows.belR {α : Type} {w w' : World} {cells : α → List Value} {ss : List Sl} {xss : List (List α)} (h : Rows w w.heap.size cells ss xss) (hb : Below w.heap.size w w') : Rows w' w'.heap.size cells ss xss := (h.below hb).more hb.size
set_option maxHeartbeats 40000000 in
set_option maxRecDepth 100000 in
theorem scheap_walk (A1 A2 A3 : Option Addr) (m c1 r c2 nv c3 : Nat) (ns : List Int) (rs : List Rr) (mv : List Nat) (w : World) (hN : Rd w w.heap.size icell A1 ns) (hm : m = ns.length) (hm2 : m ≤ 9223372036854775807) (hR : RsAt0 w A2 r rs) (hr2 : r ≤ 9223372036854775807)
    (hV : Rd w w.heap.size u16cell A3 mv) (hnv : nv = mv.length) (hnv2 : nv ≤ 9223372036854775807) (h16 : ∀ x ∈ mv, x ≤ 65535) :
    Calls Try.prog 10 #[.slice A1 m c1, .slice A2 r c2, .slice A3 nv c3] w fun e w' => e = .returned (.bool true) ∧ Below w.heap.size w w' := by
  have Hm := hide hm; have HN := hide hN; have HR0 := hide hR; have HV := hide hV; have Hnv := hide hnv; have H16 := hide h16
  clear hm hN hR hV hnv h16
  go_enter Try.func10, Try.ntmps10
  go_wp2_with fail
  refine (salive_any _).mono ?_
  rintro e w1 ⟨rfl, hb1⟩
  have hB := hb1
  clear hb1
  go_wp2_with fail
  refine (sready_any A1 A2 m c1 r c2 ns rs w1 (HN.out.bel hB) Hm.out hm2 (HR0.out.bel hB) hr2).mono ?_
  rintro e w2 ⟨rfl, hb2⟩
  replace hB := hB.trans (hb2.mono hB.size)
  clear hb2
  cases hrd : (!greatF ns rs && rentsOk ns rs)
  · clear hrd
    go_wp2_with fail
    go_ret
    exact ⟨rfl, hB⟩
  rw [Bool.and_eq_true, Bool.not_eq_true'] at hrd
  have HR := hide (HR0.out.small (ns := ns) hrd.1).1
  have Hro := hide (RentsOk.of hrd.2)
  have hm8 : m ≤ 8 := by rw [Hm.out]; exact Hro.out.nl
  have hr8 : r ≤ 8 := by rw [HR.out.en]; exact Hro.out.rl
  clear hrd
  by_cases hz : m = 0 ∨ r = 0
  · have t0 : ((m : Int) == 0) = true ∨ ((r : Int) == 0) = true := by rcases hz with h | h <;> simp [h]
    cases t1 : ((m : Int) == 0)
    · rw [t1] at t0
      have t2 : ((r : Int) == 0) = true := by simpa using t0
      clear t0 hz
      go_wp2_with fail
      go_ret
      exact ⟨rfl, hB⟩
    · clear t0 hz
      go_wp2_with fail
      go_ret
      exact ⟨rfl, hB⟩
  have m1 : 1 ≤ m := by omega
  have r1 : 1 ≤ r := by omega
  have t1 : ((m : Int) == 0) = false := by simp; omega
  have t2 : ((r : Int) == 0) = false := by simp; omega
  have nz1 : ¬ m = 0 := by omega
  have nz2 : ¬ r = 0 := by omega
  clear hz
  go_wp2_with fail
  refine (plan_any A1 A2 m c1 r c2 ns rs w2 (HN.out.bel hB) Hm.out hm2 (HR.out.bel hB) hr2).mono ?_
  rintro e w3 ⟨vA, rfl, ⟨ssA, oA, rA⟩, hb3⟩
  have hsz2 := hB.size
  replace hB := hB.trans (hb3.mono hB.size)
  obtain ⟨A4, c4, rfl, pA⟩ := oA.rdn _ rfl
  have ssAl : ssA.length = (planF ns rs).1.length := rA.len
  rw [ssAl]
  clear hb3 oA ssAl
  by_cases hf : (boR ns rs).Feas (capsR rs)
  rotate_left
  · have hpn := plan_none Hro.out hf
    rw [hpn]
    clear hpn hf pA rA
    go_wp2_with fail
    go_ret
    exact ⟨rfl, hB⟩
  obtain ⟨p, c, hpf, hpl, hpc, hmin⟩ := plan_planned Hro.out hf
  rw [hpf] at rA ⊢
  have Hpl := hide hpl; have Hpc := hide hpc; have Hpf := hide hpf; have Hmin := hide hmin
  have hpr : p.length = r := by rw [hpl.len, HR.out.en]
  have hp1 : (p, c, (0 : Int)).1.length = r := hpr
  rw [hp1]
  have Hpr := hide hpr
  have PA := hide pA; have RA := hide rA; have HB3 := hide hB
  clear hpf hpl hpc hmin hpr hp1 hf pA rA hB hsz2
  go_wp2_with fail
  refine (rplanned_any A1 A2 A4 m c1 r c2 r c4 ns rs ssA p w3 (HN.out.bel HB3.out) Hm.out Hro.out (HR.out.bel HB3.out) Hpr.out.symm PA.out RA.out).mono ?_
  rintro e w4 ⟨c', b, rfl, hy, hn, hb4⟩
  have HB4 := hide (HB3.out.trans (hb4.mono HB3.out.size))
  have H34 := hide hb4
  cases b
  · exact absurd Hpl.out (hn rfl).1
  obtain ⟨_, hcc⟩ := hy rfl
  have hcc2 : c = c' := by rw [hcc, Hpc.out, Hm.out]
  subst hcc2
  have t3 : (c != c) = false := by simp
  clear hy hn hcc hb4
  have PA4 := hide (PA.out.bel H34.out); have RA4 := hide (RA.out.belR H34.out)
  go_wp2_with fail
  go_loopw [13, 74] (fun qv iv wr => ∃ (i : Nat) (qq : Value) (ss : List Sl), qq = qv ∧ i ≤ r ∧ iv = .int .i64 i ∧ Hid (Own wr w4.heap.size 41 1 Sl.cells qq ss) ∧ Hid (Grid wr w4.heap.size ss (p.take i)) ∧ Hid (ApartG qq ss) ∧ Below w4.heap.size w4 wr) (fun _ iv _ => r - (intOf iv).toNat)
  case atStart => exact ⟨0, _, [], rfl, by omega, rfl, hide (Own.nil _ _ _ _ _), hide (by rw [List.take_zero]; exact Grid.nil _ _), hide (fun _ h => by cases h), Below.refl _ _⟩
  case round =>
    obtain ⟨i, qq, ss, rfl, hi, rfl, HO, HG, HA, hb⟩ := hrel
    by_cases hir : i < r
    · have ii : (i : Int) < (r : Int) := by omega
      obtain ⟨bf, of, af, nf, cf, hAf, hlf, hxf, cf0⟩ := (PA4.out.bel hb).sl (i := i) (by rw [RA4.out.len, Hpr.out]; exact hir)
      obtain ⟨pi, hpi⟩ : ∃ pi, p[i]? = some pi := ⟨_, List.getElem?_eq_getElem (by rw [Hpr.out]; exact hir)⟩
      obtain ⟨en, rrow⟩ := (RA4.out.belR hb).row i _ pi hxf hpi
      have hml : pi.length = m := by
        have h1 := Hpl.out.row i (by rw [← HR.out.en]; exact hir)
        rw [List.getD_eq_getElem?_getD, hpi] at h1
        rw [Hm.out]; exact h1
      have en2 : m = nf := by rw [← hml]; exact en.symm
      subst en2
      have Hml := hide hml; have Hpi := hide hpi
      have Hb := hide hb
      have L0 := hide (lit0 (cells := icell) wr 3 1 wr.heap.size (fun _ => rfl) (Nat.le_refl _))
      have hb0 := hide (below_new wr (.cells #[] 3))
      have R0 := hide (rrow.bel hb0.out)
      have hss : ss.length + 1 ≤ 1000000 := by rw [HG.out.len]; have := List.length_take_le i p; omega
      have hlo := hb.size
      subst hAf
      clear hxf en hml rrow hpi hb
      go_wp2_with (first | (at_builtin; refine wpList_fresh el_int rfl (.tmp 79) (.tmp 80) rfl rfl L0.out Hml.out rfl R0.out (by omega) hb0.out.size ?_; intro v1 wa o1 k1 hat1; have O1 := hide o1; have K1 := hide (hb0.out.trans (k1.mono hb0.out.size)); clear o1 k1 hat1; obtain ⟨A1x, c1x, rfl, _⟩ := O1.out.rdn m Hml.out; have Oa := hide (HO.out.bel K1.out); have hsa := Nat.le_trans hlo K1.out.size) | (at_builtin; refine wpList_app1l (v := qq) (xs := ss) (base := w4.heap.size) (k := 1) (bytes := 24) (E := 41) el_rows2 rfl (.tmp 78) (.tmp 82) rfl rfl rfl Oa.out ⟨A1x, m, c1x⟩ rfl hss hsa ?_; intro v' w10 o10 k10 hat; have G9 := grid_app HO.out HG.out HA.out hlo Hpi.out Hml.out K1.out O1.out k10 hat; have O10 := hide o10; clear o10 k10 hat))
      obtain ⟨g1, g2, g3⟩ := G9
      exact ⟨⟨i + 1, _, _, rfl, by omega, by go_num, O10, hide g1, hide g2, (Hb.out.trans (K1.out.mono hlo)).trans g3⟩, by simp [intOf]; omega⟩
    · obtain rfl : r = i := by omega
      have hpt : p.take r = p := List.take_of_length_le (by rw [Hpr.out]; exact Nat.le_refl _)
      have hg0 := HG.out; rw [hpt] at hg0
      have hsl : ss.length = r := by rw [hg0.len, Hpr.out]
      obtain ⟨A13, c13, rfl, _⟩ := HO.out.rdn r hsl
      obtain ⟨w5, rfl⟩ : ∃ w5, w5 = wr := ⟨wr, rfl⟩
      obtain ⟨gq, rfl⟩ := own_at' HO.out (by omega)
      have Hsl := hide hsl
      have HG0 := hide hg0
      have H45 := hide hb
      have Hsh : Hid (Tbl p r m 0) := hide ⟨Hpr.out, fun j row hj => by
        have hjr : j < rs.length := by rw [← HR.out.en, ← Hpr.out]; exact (List.getElem?_eq_some_iff.1 hj).1
        have e1 : p.getD j [] = row := by rw [List.getD_eq_getElem?_getD, hj]; rfl
        have h1 := Hpl.out.row j hjr
        rw [e1] at h1
        refine ⟨by rw [Hm.out]; exact h1, fun x hx => ?_⟩
        obtain ⟨k, hk, hkx⟩ := List.getElem_of_mem hx
        have h2 := Hpl.out.ok j hjr k (by rw [← h1]; exact hk)
        have e2 : cellAt p j k = x := by unfold cellAt; rw [e1, List.getD_eq_getElem?_getD, List.getElem?_eq_getElem hk, hkx]; rfl
        rw [e2] at h2
        have h3 := (Hro.out.mi hjr).2
        have h4 : 0 ≤ usedTo p j k := sumTo_nonneg fun l hl => (Hpl.out.ok j hjr l (by omega)).1
        omega⟩
      clear hpt hg0 hsl hb HG
      go_wp2_with fail
      go_loopw [87] (fun iv wr => ∃ (i : Nat) (qs : List (List Int)), i ≤ nv ∧ i ≤ 40 ∧ iv = .int .i64 i ∧ Hid (Own wr w4.heap.size 41 1 Sl.cells (.slice (some ⟨gq, 0, none⟩) r c13) ss) ∧ Hid (Grid wr w4.heap.size ss qs) ∧ Hid (Tbl qs r m ((i : Int) * 32)) ∧ Below w4.heap.size w4 wr) (fun iv _ => nv - (intOf iv).toNat)
      case atStart => exact ⟨0, p, by omega, by omega, rfl, HO, HG0, Hsh, H45.out⟩
      case round =>
        obtain ⟨i, qs, hi, hi40, rfl, HO2, HG2, HQ2, hb⟩ := hrel
        by_cases hiv : i < nv
        · have ii : (i : Int) < (nv : Int) := by omega
          obtain ⟨bm, om, x, hAm, _, hxm, cm⟩ := ((HV.out.bel HB4.out).bel hb).u16 (i := i) (by rw [← Hnv.out]; exact hiv)
          have hx16 := H16.out x (List.mem_of_getElem? hxm)
          subst hAm
          clear hxm
          by_cases h40 : i = 40
          · subst h40
            have ii' : (40 : Int) < (nv : Int) := by omega
            obtain ⟨w6, rfl⟩ : ∃ w6, w6 = wr := ⟨wr, rfl⟩
            have HB6 := hide (HB4.out.trans (hb.mono HB4.out.size)); have H46 := hide hb
            clear hb
            obtain ⟨A', c', ea, ro⟩ := HO2.out.rdn r Hsl.out
            injection ea with ea _ _
            subst ea
            have RO := hide ro
            clear ro
            go_wp2_with fail
            refine (rplanned_any A1 A2 (some ⟨gq, 0, none⟩) m c1 r c2 r _ ns rs ss qs w6 (HN.out.bel HB6.out) Hm.out Hro.out (HR.out.bel HB6.out) HQ2.out.len.symm RO.out HG2.out.rows).mono ?_
            rintro e w7 ⟨d, b, rfl, hy, hn, hb7⟩
            have HB7 := hide (HB6.out.trans (hb7.mono HB6.out.size)); have H67 := hide hb7; have H47 := hide (H46.out.trans (hb7.mono H46.out.size))
            cases b
            · clear hy hn hb7
              go_wp2_with fail
              go_ret
              exact ⟨rfl, HB7.out⟩
            obtain ⟨hqp, hqc⟩ := hy rfl
            have hle : c ≤ d := by rw [hqc, Hm.out]; exact plan_least Hro.out Hmin.out hqp
            have d1 : decide (d < c) = false := decide_eq_false (by omega)
            have Hlex : Hid (d = c → ∀ a k, a < r → k < m → Agr p qs r m a k → cellAt qs a k ≤ cellAt p a k) := hide fun e a k ha hk hag => by
              rw [HR.out.en] at ha hag; rw [Hm.out] at hk hag
              exact plan_lex Hro.out Hpf.out Hmin.out hqp (by rw [← e, hqc, Hm.out]) ha hk hag
            clear hy hn hb7 hqp hqc hle
            go_wp2_with fail
            go_loopw [154] (fun iv wr => ∃ a : Nat, a ≤ r ∧ iv = .int .i64 a ∧ Hid (d = c → Agr p qs r m a 0) ∧ Below w7.heap.size w7 wr) (fun iv _ => r - (intOf iv).toNat)
            case atStart => exact ⟨0, by omega, rfl, hide (fun _ => Agr.start), Below.refl _ _⟩
            case round =>
              obtain ⟨a, ha, rfl, HG, hb⟩ := hrel
              by_cases har : a < r
              · have ia : (a : Int) < (r : Int) := by omega
                have HB := hide hb
                obtain ⟨bp, op, ap, np, cp, hAp, _, hxp, cp0⟩ := ((PA4.out.bel H47.out).bel hb).sl (i := a) (by rw [RA4.out.len, Hpr.out]; exact har)
                obtain ⟨pa, hpa⟩ : ∃ pa, p[a]? = some pa := ⟨_, List.getElem?_eq_getElem (by rw [Hpr.out]; exact har)⟩
                obtain ⟨en, rrow⟩ := ((RA4.out.belR H47.out).belR hb).row a _ pa hxp hpa
                have hml : pa.length = m := (Hsh.out.row a pa hpa).1
                have en2 : m = np := by rw [← hml]; exact en.symm
                subst en2
                have Hml := hide hml; have Hpa := hide hpa; have RRow := hide rrow; have HAp := hide hAp
                have Cp0 := hide cp0
                subst hAp
                clear hxp en hml rrow hpa hb
                go_wp2_with fail
                obtain ⟨wo, rfl⟩ : ∃ wo, wo = wr := ⟨wr, rfl⟩
                clear cp0
                go_loopw [162] (fun kv wr => ∃ k : Nat, k ≤ m ∧ kv = .int .i64 k ∧ Hid (d = c → Agr p qs r m a k) ∧ Below wo.heap.size wo wr) (fun kv _ => m - (intOf kv).toNat)
                case atStart => exact ⟨0, by omega, rfl, HG, Below.refl _ _⟩
                case round =>
                  obtain ⟨k, hk, rfl, HK, hb⟩ := hrel
                  by_cases hkm : k < m
                  · have ikk : (k : Int) < (m : Int) := by omega
                    obtain ⟨bx, ox, x, hAx, _, hxx, cx⟩ := (RRow.out.bel hb).int (i := k) (by rw [Hml.out]; exact hkm)
                    have Hx : Hid (cellAt p a k = x) := hide (by unfold cellAt; rw [show p.getD a [] = pa by rw [List.getD_eq_getElem?_getD, Hpa.out]; rfl, List.getD_eq_getElem?_getD, hxx]; rfl)
                    have H7x := (H67.out.trans (HB.out.mono H67.out.size)).trans (hb.mono (H67.out.trans (HB.out.mono H67.out.size)).size)
                    obtain ⟨g, cc, xs, hq, cr, cy, _⟩ := grid_put (HO2.out.bel H7x) Hsl.out (HG2.out.bel H7x) HA.out HQ2.out (Nat.le_trans H46.out.size H7x.size) har hkm
                    obtain ⟨y, hy⟩ : ∃ y, y = xs.getD k 0 := ⟨_, rfl⟩
                    rw [← hy] at cy
                    have Hy : Hid (cellAt qs a k = y) := hide (by unfold cellAt; rw [show qs.getD a [] = xs by rw [List.getD_eq_getElem?_getD, hq]; rfl]; exact hy.symm)
                    have Hb := hide hb
                    have cp1 := (hb.cell (p := ⟨bp, op + a, none⟩) (World.block_lt_of_cell? wo ⟨bp, op + a, none⟩ Cp0.out)).trans Cp0.out
                    subst hAx
                    clear hxx H7x hq hy hb
                    by_cases hdc : d = c
                    · subst hdc
                      have tq : (d == d) = true := by simp
                      by_cases hxy : x = y
                      · subst hxy
                        have t5 : (x != x) = false := by simp
                        go_upto_region 38 with fail
                        go_quiet (fail)
                        go_wp2_with fail
                        exact ⟨⟨k + 1, by omega, by go_num, hide (fun _ => (HK.out rfl).next (by rw [Hx.out, Hy.out])), below_drewN Hb.out _⟩, by simp [intOf]; omega⟩
                      · have hle : y ≤ x := by have := Hlex.out rfl a k har hkm (HK.out rfl); rw [Hx.out, Hy.out] at this; exact this
                        have t5 : (x != y) = true := by simpa using hxy
                        have t6 : decide (y < x) = true := decide_eq_true (by omega)
                        clear hxy hle
                        go_upto_region 38 with fail
                        go_quiet (fail)
                        go_upto_region 39 with fail
                        go_quiet (fail)
                        go_wp2_with fail
                        go_ret
                        exact ⟨rfl, HB7.out.trans ((HB.out.trans ((below_drewN Hb.out _).mono HB.out.size)).mono HB7.out.size)⟩
                    · have tq : (d == c) = false := by simpa using hdc
                      clear hdc
                      have hdc := hide tq
                      go_upto_region 38 with fail
                      go_quiet (fail)
                      go_wp2_with fail
                      exact ⟨⟨k + 1, by omega, by go_num, hide (fun e => by have := hdc.out; rw [e] at this; simp at this), below_drewN Hb.out _⟩, by simp [intOf]; omega⟩
                  · obtain rfl : m = k := by omega
                    have Hb := hide hb
                    clear hb
                    go_wp2_with fail
                    exact ⟨⟨a + 1, by omega, by go_num, hide (fun e => (HK.out e).row), HB.out.trans (Hb.out.mono HB.out.size)⟩, by simp [intOf]; omega⟩
              · have HB := hide hb
                clear hb
                go_wp2_with fail
                go_ret
                exact ⟨rfl, HB7.out.trans (HB.out.mono HB7.out.size)⟩
          · have t40 : ((i : Int) == 40) = false := by simp; omega
            have t40' : (i == 40) = false := by simpa using h40
            have hb' := hide hb
            clear hb
            go_upto_region 22 with fail
            go_quiet (fail)
            go_upto_region 24 with fail
            obtain ⟨w6, hw6⟩ : ∃ w6, Hid (wr.drewN nq = w6) := ⟨_, hide rfl⟩
            have hb6 : Below wr.heap.size wr w6 := by rw [← hw6.out]; exact below_drewN (Below.refl _ _) nq
            rw [hw6.out]
            obtain ⟨ia, hia, hiar⟩ := u16_idx x r hx16 (by omega)
            obtain ⟨ib, hib, hibr⟩ := u16_idxd x 16 r hx16 (by omega)
            obtain ⟨k, hk, hkm⟩ := u16_idxd x 256 m hx16 (by omega)
            obtain ⟨n, hn, hn1, hn2⟩ := u16_top x hx16
            have hib' : (wrap64 (bits BinOp.and IntKind.u16 ((x : Int) / 16) 15)).tmod (r : Int) = (ib : Int) := hib
            have hk' : (wrap64 (bits BinOp.and IntKind.u16 ((x : Int) / 256) 15)).tmod (m : Int) = (k : Int) := hk
            rw [hia, hib', hk', hn]
            clear hia hib hk hib' hk' hn hw6 cm
            have hlo6 := Nat.le_trans hb'.out.size hb6.size
            obtain ⟨g, cc, xs, hx, cr, cx, fx, b1, b2, put⟩ := grid_put (HO2.out.bel hb6) Hsl.out (HG2.out.bel hb6) HA.out HQ2.out hlo6 hiar hkm
            obtain ⟨v, hv⟩ : ∃ v, v = xs.getD k 0 := ⟨_, rfl⟩
            rw [← hv] at cx b1 b2
            have fw : IntKind.i64.wrap (v - n) = v - n := wrapI (by omega)
            obtain ⟨p1, p2, p3, p4⟩ := put (v - n) ((i : Int) * 32 + 16) (by omega) (by omega) (by omega)
            have ika : (ia : Int) < (r : Int) := by omega
            have ikk : (k : Int) < (m : Int) := by omega
            have Hp1 := hide p1; have Hp2 := hide p2; have Hp3 := hide p3; have Hp4 := hide p4
            obtain ⟨qs2, hqs2⟩ : ∃ z, Hid (qs.set ia (xs.set k (v - n)) = z) := ⟨_, hide rfl⟩
            clear put p1 p2 p3 p4 hx hv
            go_upto_region 25 with fail
            obtain ⟨w7, hw7⟩ : ∃ w7, Hid (w6.setCell ⟨g, k, none⟩ (.int .i64 (v - n)) = w7) := ⟨_, hide rfl⟩
            rw [hw7.out, hqs2.out] at Hp2
            rw [hqs2.out] at Hp3
            rw [hw7.out] at Hp1 Hp4 ⊢
            clear cr cx fx b1 b2 fw hw7 hqs2
            obtain ⟨g2, cc2, xs2, hx2, cr2, cx2, fx2, b3, b4, put⟩ := grid_put Hp1.out Hsl.out Hp2.out HA.out Hp3.out (Nat.le_trans hlo6 Hp4.out.size) hibr hkm
            obtain ⟨v2, hv2⟩ : ∃ v, v = xs2.getD k 0 := ⟨_, rfl⟩
            rw [← hv2] at cx2 b3 b4
            have fw2 : IntKind.i64.wrap (v2 + n) = v2 + n := wrapI (by omega)
            obtain ⟨p1, p2, p3, p4⟩ := put (v2 + n) (((i + 1 : Nat) : Int) * 32) (by omega) (by omega) (by omega)
            have ikb : (ib : Int) < (r : Int) := by omega
            have Hp5 := hide p1; have Hp6 := hide p2; have Hp7 := hide p3; have Hp8 := hide p4
            obtain ⟨qs3, hqs3⟩ : ∃ z, Hid (qs2.set ib (xs2.set k (v2 + n)) = z) := ⟨_, hide rfl⟩
            clear put p1 p2 p3 p4 hx2 hv2
            go_upto_region 26 with fail
            obtain ⟨w8, hw8⟩ : ∃ w8, Hid (w7.setCell ⟨g2, k, none⟩ (.int .i64 (v2 + n)) = w8) := ⟨_, hide rfl⟩
            rw [hw8.out, hqs3.out] at Hp6
            rw [hqs3.out] at Hp7
            rw [hw8.out] at Hp5 Hp8 ⊢
            clear cr2 cx2 fx2 b3 b4 fw2 hw8 hqs3
            have hb8 := hide (((hb'.out.trans (hb6.mono hb'.out.size)).trans Hp4.out).trans Hp8.out)
            go_wp2_with fail
            exact ⟨⟨i + 1, qs3, by omega, by omega, by go_num, Hp5, Hp6, Hp7, hb8.out⟩, by simp [intOf]; omega⟩
        · obtain ⟨w6, rfl⟩ : ∃ w6, w6 = wr := ⟨wr, rfl⟩
          have HB6 := hide (HB4.out.trans (hb.mono HB4.out.size)); have H46 := hide hb
          clear hb
          obtain ⟨A', c', ea, ro⟩ := HO2.out.rdn r Hsl.out
          injection ea with ea _ _
          subst ea
          have RO := hide ro
          clear ro
          go_wp2_with fail
          refine (rplanned_any A1 A2 (some ⟨gq, 0, none⟩) m c1 r c2 r _ ns rs ss qs w6 (HN.out.bel HB6.out) Hm.out Hro.out (HR.out.bel HB6.out) HQ2.out.len.symm RO.out HG2.out.rows).mono ?_
          rintro e w7 ⟨d, b, rfl, hy, hn, hb7⟩
          have HB7 := hide (HB6.out.trans (hb7.mono HB6.out.size)); have H67 := hide hb7; have H47 := hide (H46.out.trans (hb7.mono H46.out.size))
          cases b
          · clear hy hn hb7
            go_wp2_with fail
            go_ret
            exact ⟨rfl, HB7.out⟩
          obtain ⟨hqp, hqc⟩ := hy rfl
          have hle : c ≤ d := by rw [hqc, Hm.out]; exact plan_least Hro.out Hmin.out hqp
          have d1 : decide (d < c) = false := decide_eq_false (by omega)
          have Hlex : Hid (d = c → ∀ a k, a < r → k < m → Agr p qs r m a k → cellAt qs a k ≤ cellAt p a k) := hide fun e a k ha hk hag => by
            rw [HR.out.en] at ha hag; rw [Hm.out] at hk hag
            exact plan_lex Hro.out Hpf.out Hmin.out hqp (by rw [← e, hqc, Hm.out]) ha hk hag
          clear hy hn hb7 hqp hqc hle
          go_wp2_with fail
          go_loopw [154] (fun iv wr => ∃ a : Nat, a ≤ r ∧ iv = .int .i64 a ∧ Hid (d = c → Agr p qs r m a 0) ∧ Below w7.heap.size w7 wr) (fun iv _ => r - (intOf iv).toNat)
          case atStart => exact ⟨0, by omega, rfl, hide (fun _ => Agr.start), Below.refl _ _⟩
          case round =>
            obtain ⟨a, ha, rfl, HG, hb⟩ := hrel
            by_cases har : a < r
            · have ia : (a : Int) < (r : Int) := by omega
              have HB := hide hb
              obtain ⟨bp, op, ap, np, cp, hAp, _, hxp, cp0⟩ := ((PA4.out.bel H47.out).bel hb).sl (i := a) (by rw [RA4.out.len, Hpr.out]; exact har)
              obtain ⟨pa, hpa⟩ : ∃ pa, p[a]? = some pa := ⟨_, List.getElem?_eq_getElem (by rw [Hpr.out]; exact har)⟩
              obtain ⟨en, rrow⟩ := ((RA4.out.belR H47.out).belR hb).row a _ pa hxp hpa
              have hml : pa.length = m := (Hsh.out.row a pa hpa).1
              have en2 : m = np := by rw [← hml]; exact en.symm
              subst en2
              have Hml := hide hml; have Hpa := hide hpa; have RRow := hide rrow; have HAp := hide hAp
              have Cp0 := hide cp0
              subst hAp
              clear hxp en hml rrow hpa hb
              go_wp2_with fail
              obtain ⟨wo, rfl⟩ : ∃ wo, wo = wr := ⟨wr, rfl⟩
              clear cp0
              go_loopw [162] (fun kv wr => ∃ k : Nat, k ≤ m ∧ kv = .int .i64 k ∧ Hid (d = c → Agr p qs r m a k) ∧ Below wo.heap.size wo wr) (fun kv _ => m - (intOf kv).toNat)
              case atStart => exact ⟨0, by omega, rfl, HG, Below.refl _ _⟩
              case round =>
                obtain ⟨k, hk, rfl, HK, hb⟩ := hrel
                by_cases hkm : k < m
                · have ikk : (k : Int) < (m : Int) := by omega
                  obtain ⟨bx, ox, x, hAx, _, hxx, cx⟩ := (RRow.out.bel hb).int (i := k) (by rw [Hml.out]; exact hkm)
                  have Hx : Hid (cellAt p a k = x) := hide (by unfold cellAt; rw [show p.getD a [] = pa by rw [List.getD_eq_getElem?_getD, Hpa.out]; rfl, List.getD_eq_getElem?_getD, hxx]; rfl)
                  have H7x := (H67.out.trans (HB.out.mono H67.out.size)).trans (hb.mono (H67.out.trans (HB.out.mono H67.out.size)).size)
                  obtain ⟨g, cc, xs, hq, cr, cy, _⟩ := grid_put (HO2.out.bel H7x) Hsl.out (HG2.out.bel H7x) HA.out HQ2.out (Nat.le_trans H46.out.size H7x.size) har hkm
                  obtain ⟨y, hy⟩ : ∃ y, y = xs.getD k 0 := ⟨_, rfl⟩
                  rw [← hy] at cy
                  have Hy : Hid (cellAt qs a k = y) := hide (by unfold cellAt; rw [show qs.getD a [] = xs by rw [List.getD_eq_getElem?_getD, hq]; rfl]; exact hy.symm)
                  have Hb := hide hb
                  have cp1 := (hb.cell (p := ⟨bp, op + a, none⟩) (World.block_lt_of_cell? wo ⟨bp, op + a, none⟩ Cp0.out)).trans Cp0.out
                  subst hAx
                  clear hxx H7x hq hy hb
                  by_cases hdc : d = c
                  · subst hdc
                    have tq : (d == d) = true := by simp
                    by_cases hxy : x = y
                    · subst hxy
                      have t5 : (x != x) = false := by simp
                      go_upto_region 38 with fail
                      go_quiet (fail)
                      go_wp2_with fail
                      exact ⟨⟨k + 1, by omega, by go_num, hide (fun _ => (HK.out rfl).next (by rw [Hx.out, Hy.out])), below_drewN Hb.out _⟩, by simp [intOf]; omega⟩
                    · have hle : y ≤ x := by have := Hlex.out rfl a k har hkm (HK.out rfl); rw [Hx.out, Hy.out] at this; exact this
                      have t5 : (x != y) = true := by simpa using hxy
                      have t6 : decide (y < x) = true := decide_eq_true (by omega)
                      clear hxy hle
                      go_upto_region 38 with fail
                      go_quiet (fail)
                      go_upto_region 39 with fail
                      go_quiet (fail)
                      go_wp2_with fail
                      go_ret
                      exact ⟨rfl, HB7.out.trans ((HB.out.trans ((below_drewN Hb.out _).mono HB.out.size)).mono HB7.out.size)⟩
                  · have tq : (d == c) = false := by simpa using hdc
                    clear hdc
                    have hdc := hide tq
                    go_upto_region 38 with fail
                    go_quiet (fail)
                    go_wp2_with fail
                    exact ⟨⟨k + 1, by omega, by go_num, hide (fun e => by have := hdc.out; rw [e] at this; simp at this), below_drewN Hb.out _⟩, by simp [intOf]; omega⟩
                · obtain rfl : m = k := by omega
                  have Hb := hide hb
                  clear hb
                  go_wp2_with fail
                  exact ⟨⟨a + 1, by omega, by go_num, hide (fun e => (HK.out e).row), HB.out.trans (Hb.out.mono HB.out.size)⟩, by simp [intOf]; omega⟩
            · have HB := hide hb
              clear hb
              go_wp2_with fail
              go_ret
              exact ⟨rfl, HB7.out.trans (HB.out.mono HB7.out.size)⟩
set_option maxRecDepth 100000 in
theorem saltCheap_lifted (os : Os) (started : os.Started) (H : Type) (enc : TypeId × Value → H) :
    ReturnsInHanded {} Try.checked os 10 .any (Rows.saltCheapSpec.pre6 enc Try.prog Try.f10 Rows.saltCheapRow.domain false) (Rows.saltCheapSpec.post enc Try.prog Try.f10 false true false false) := by
  refine law_lifted os started H enc (s := Rows.saltCheapSpec) Try.func10 (by kernel_rfl) ?_ rfl Try.underlying4 rfl (of_decide_eq_true (by kernel_rfl))
    (ChangeSpec.witness6 (enc := enc) (C := Try.checked) false ⟨#[], #[.slice none 0 0, .slice none 0 0, .slice none 0 0], []⟩ 8 (by kernel_rfl) (by kernel_rfl) (by kernel_rfl) (by kernel_rfl)) ?_
  · intro ds hds
    match ds, hds with
    | [a, b, c], _ => rfl
  · intro W base args ds ps hval hA hlt
    rw [Try.params10] at hA hval
    obtain ⟨v0, v1, v2, d0, d1, d2, p0, p1, p2, rfl, rfl, rfl, h0, h1, h2⟩ := trodAll_three hA
    obtain ⟨A1, m, c1, ns, rfl, hm, hm2, hN, _⟩ := open_sl shape_int Try.underlying41 cells_int icell_len (by omega) (hval 0 _ v0 rfl rfl) h0
    obtain ⟨A2, r, c2, rs, rfl, hr2, hR, _⟩ := open_rents (hval 1 _ v1 rfl rfl) h1
    obtain ⟨A3, nv, c3, mv, rfl, hnv, hnv2, hV, h16⟩ := open_sl shape_u16 Try.underlying84 cells_u16 u16cell_len (by omega) (hval 2 _ v2 rfl rfl) h2
    exact scheap_walk A1 A2 A3 m c1 r c2 nv c3 ns rs mv W hN hm hm2 hR hr2 hV hnv hnv2 h16

theorem saltCheap_holds : Rows.SaltCheapSaid :=
  OpenClaim.holds_of_wide 10 Try.f10 rfl rfl rfl rfl rfl rfl rfl ⟨rfl, rfl, rfl, rfl, rfl⟩ rfl rfl rfl rfl rfl (by kernel_rfl) Try.func10 (by kernel_rfl)
    (of_decide_eq_true (by kernel_rfl)) (by unfold Func.isWrapper; rw [if_neg (of_decide_eq_false (by kernel_rfl))]; exact ⟨rfl, rfl⟩)
    (fun os started H enc _ => saltCheap_lifted os started H enc)
#print axioms saltCheap_holds
end Go.Proofs.Ytmbhnjpaieimbaa
