/- Salt: whether needs and rents are valid, in the reference, by contract. -/
import Derived.Test.YtmbhnjpaieimbaaPC2
import Derived.Deep.Cut
set_option linter.unusedVariables false
set_option linter.unusedSimpArgs false
namespace Go.Proofs.Ytmbhnjpaieimbaa
open Go.RowKit Go.Shelf
theorem within_quiet {lo hi n : Int} {w : World} {j : Nat} {b : Bool} (h : inB lo hi n = b) : Calls Try.prog 52 #[.int .i64 n, .int .i64 lo, .int .i64 hi] (w.drewN j) fun e w'' => e = .returned (.bool b) ∧ ∃ m, w'' = w.drewN m := by
  subst h
  exact Calls.quiet_of_same ((aflajref06_within lo hi n _).mono fun _ _ ⟨h, e⟩ => ⟨h, e.symm⟩)
theorem inB_out (lo hi n : Int) : inB lo hi n = !outB lo hi n := by
  unfold inB outB
  rw [Bool.not_or, ← decide_not, ← decide_not]
  congr 1 <;> (rw [decide_eq_decide]; omega)
set_option maxHeartbeats 4000000 in
set_option maxRecDepth 100000 in
theorem rrents_any (A1 A2 : Option Addr) (m c1 r c2 : Nat) (ns : List Int) (rs : List Rr) (w : World) (hN : Rd w w.heap.size icell A1 ns) (hm : m = ns.length) (hm2 : m ≤ 9223372036854775807) (hR : RsAt w A2 r rs) (hr2 : r ≤ 9223372036854775807) :
    Calls Try.prog 71 #[.slice A1 m c1, .slice A2 r c2] w fun e w' => e = .returned (.bool (rentsOk ns rs)) ∧ Below w.heap.size w w' := by
  have Hm := hide hm; have Her := hide hR.en; have HR := hide hR; have HN := hide hN
  obtain ⟨D, hD⟩ : ∃ D, D = rentsOk ns rs := ⟨_, rfl⟩
  rw [← hD]
  have HD := hide hD
  clear hm hR hN hD
  go_enter Try.func71, Try.ntmps71
  by_cases h1 : 8 < m
  · have Hg : Hid (D = false) := hide (by rw [HD.out]; unfold rentsOk; rw [decide_eq_false (by have := Hm.out; omega)]; rfl)
    have i1 : (8 : Int) < (m : Int) := by omega
    go_wp2_with fail
    go_ret
    exact ⟨ret_bool Hg.out.symm, Below.refl _ _⟩
  have i1 : ¬ (8 : Int) < (m : Int) := by omega
  by_cases h2 : 8 < r
  · have Hg : Hid (D = false) := hide (by rw [HD.out]; unfold rentsOk; rw [decide_eq_false (p := rs.length ≤ 8) (by have := Her.out; omega), Bool.false_and, Bool.and_false])
    have i2 : (8 : Int) < (r : Int) := by omega
    go_wp2_with fail
    go_ret
    exact ⟨ret_bool Hg.out.symm, Below.refl _ _⟩
  have i2 : ¬ (8 : Int) < (r : Int) := by omega
  have Hg : Hid (D = (!(anyOut 0 23040 ns) && rentTo ns.length rs rs.length)) := hide (by rw [HD.out]; unfold rentsOk; rw [decide_eq_true (p := ns.length ≤ 8) (by have := Hm.out; omega), decide_eq_true (p := rs.length ≤ 8) (by have := Her.out; omega), Bool.true_and, Bool.true_and])
  clear HD
  go_wp2_with fail
  go_loopw [5] (fun i wr => ∃ k : Nat, k ≤ m ∧ i = .int .i64 k ∧ Below w.heap.size w wr ∧ Hid (∀ y ∈ ns.take k, outB 0 23040 y = false)) (fun i _ => m - (intOf i).toNat)
  case atStart => exact ⟨0, by omega, rfl, Below.refl _ _, hide pre_nil⟩
  case round =>
    obtain ⟨k, hk, rfl, hb, hpre⟩ := hrel
    by_cases hlt : k < m
    · obtain ⟨b7, off, x, hA, hql, hxk, c0⟩ := (HN.out.bel hb).int (i := k) (by rw [← Hm.out]; exact hlt)
      have ik : (k : Int) < (m : Int) := by omega
      have Hxk := hide hxk
      rw [hA]
      clear hA hxk
      go_wp2_with fail
      refine (aflajref06_within 0 23040 x wr).mono ?_
      rintro e w1 ⟨rfl, rfl⟩
      cases hi : inB 0 23040 x
      · have Hf : Hid (D = false) := hide (by
          rw [Hg.out, show anyOut 0 23040 ns = true from any_hit Hxk.out (p := outB 0 23040) (by rw [inB_out] at hi; simpa using hi)]; rfl)
        clear hi
        go_wp2_with fail
        go_ret
        exact ⟨ret_bool Hf.out.symm, hb⟩
      · have Hn := hide (pre_snoc Hxk.out (p := outB 0 23040) (by rw [inB_out] at hi; simpa using hi) hpre.out)
        clear hi
        go_wp2_with fail
        exact ⟨⟨k + 1, by omega, by go_num, hb, Hn⟩, by simp [intOf]; omega⟩
    · have hkr : ns.length ≤ k := by have := Hm.out; omega
      have Hg2 : Hid (D = rentTo ns.length rs rs.length) := hide (by rw [Hg.out, show anyOut 0 23040 ns = false from any_miss hkr hpre.out]; rfl)
      have HB0 := hide hb
      clear hpre hb Hg
      obtain ⟨w0, rfl⟩ : ∃ w0, w0 = wr := ⟨wr, rfl⟩
      go_wp2_with fail
      go_loopw [6, 7] (fun lv iv wr => ∃ k : Nat, k ≤ r ∧ lv = .int .i64 (leftTo rs k) ∧ iv = .int .i64 k ∧ Hid (rentTo ns.length rs k = true) ∧ Below w0.heap.size w0 wr) (fun _ iv _ => r - (intOf iv).toNat)
      case atStart => exact ⟨0, by omega, rfl, rfl, hide rfl, Below.refl _ _⟩
      case round =>
        obtain ⟨k, hk, rfl, rfl, HT, hb⟩ := hrel
        have hBw := HB0.out.trans (hb.mono HB0.out.size)
        by_cases hlt : k < r
        · obtain ⟨b7, off, q, hA, hql, hqx, c0, c1', c2'⟩ := (HR.out.bel hBw).rd.rr (i := k) (by rw [← Her.out]; exact hlt)
          obtain ⟨b8, w5, e8, ew5, hx8, hb5, hz5⟩ := mk_bx wr #[.int .i64 q.mi, .int .i64 q.pr, .slice q.A q.n q.c] 89
          have hlb := leftTo_bd HT.out
          have hmi : miAt rs k = q.mi := by unfold miAt; rw [hqx]; rfl
          have hpr : prAt rs k = q.pr := by unfold prAt; rw [hqx]; rfl
          have hfs : fsAt rs k = q.fs := by unfold fsAt; rw [hqx]; rfl
          have Hnext : Hid (rentTo ns.length rs (k + 1) = (inB 0 (leftTo rs k) q.mi && (inB 0 100000 q.pr && fldOk ns.length q.fs))) := by rw [rentTo, HT.out, hmi, hpr, hfs, Bool.true_and]; exact hide rfl
          have Hleft : Hid (leftTo rs (k + 1) = leftTo rs k - q.mi) := by rw [leftTo, hmi]; exact hide rfl
          have Hbad : Hid (rentTo ns.length rs (k + 1) = false → D = false) := hide fun h => by
            rw [Hg2.out]
            cases hh : rentTo ns.length rs rs.length
            · rfl
            · rw [rentTo_le hh (by have := Her.out; omega)] at h; cases h
          obtain ⟨lf, hlf⟩ : ∃ lf, lf = leftTo rs k := ⟨_, rfl⟩
          rw [← hlf] at hlb Hnext Hleft ⊢
          have Hrow := hide (HR.out.row q (List.mem_of_getElem? hqx))
          have ik : (k : Int) < (r : Int) := by omega
          have hB8 := hb.trans (hb5.mono hb.size)
          rw [hA]
          clear hqx hmi hpr hfs hA hlf hz5
          go_upto_region 13 with fail
          rw [ew5.out, e8.out]
          obtain ⟨w6, rfl⟩ : ∃ w6, w6 = w5 := ⟨w5, rfl⟩
          have HB8 := hide hB8; have X8 := hide hx8
          clear hB8 hb hb5 hBw c0 c1' c2' hql hx8
          obtain ⟨y0, y1, y2⟩ := X8.out.at_.c3
          go_wp2_with fail
          refine (aflajref06_within 0 lf q.mi w6).mono ?_
          rintro e w7 ⟨rfl, rfl⟩
          cases hi1 : inB 0 lf q.mi
          · have Hf := hide (Hbad.out (by rw [Hnext.out, hi1]; rfl))
            clear hi1
            go_wp2_with fail
            go_ret
            exact ⟨ret_bool Hf.out.symm, HB0.out.trans (HB8.out.mono HB0.out.size)⟩
          rw [hi1, Bool.true_and] at Hnext
          have hmib : 0 ≤ q.mi ∧ q.mi ≤ lf := by simp [inB] at hi1; omega
          clear hi1
          go_wp2_with fail
          refine (aflajref06_within 0 100000 q.pr w6).mono ?_
          rintro e w7 ⟨rfl, rfl⟩
          cases hi2 : inB 0 100000 q.pr
          · have Hf := hide (Hbad.out (by rw [Hnext.out, hi2]; rfl))
            clear hi2
            go_wp2_with fail
            go_ret
            exact ⟨ret_bool Hf.out.symm, HB0.out.trans (HB8.out.mono HB0.out.size)⟩
          rw [hi2, Bool.true_and] at Hnext
          clear hi2
          have hw : IntKind.i64.wrap (lf - q.mi) = lf - q.mi := wrapI (by omega)
          obtain ⟨n, hn⟩ : ∃ n, n = q.n := ⟨_, rfl⟩
          have hqn := Hrow.out.2.1
          rw [← hn] at hqn y2
          have Hn := hide (show n = q.fs.length by rw [hn]; exact Hrow.out.1)
          have Hn0 := hide hn
          clear hn
          go_wp2_with fail
          clear y0 y1 y2 hw
          go_loopw [9] (fun jv wr => ∃ j : Nat, j ≤ n ∧ jv = .int .i64 j ∧ Hid (fldTo ns.length q.fs j = true) ∧ Below w6.heap.size w6 wr) (fun jv _ => n - (intOf jv).toNat)
          case atStart => exact ⟨0, by omega, rfl, hide rfl, Below.refl _ _⟩
          case round =>
            obtain ⟨j, hj, rfl, HTj, hb2⟩ := hrel
            have hB0r := HB8.out.trans (hb2.mono HB8.out.size)
            have hBr := HB0.out.trans (hB0r.mono HB0.out.size)
            have y2 : wr.cell? ⟨b8, 2, none⟩ = some (.slice q.A n q.c) := by rw [Hn0.out]; exact (X8.out.bel hb2).at_.c3.2.2
            by_cases hjn : j < n
            · obtain ⟨bf, of, f, hAf, hlf2, hxf, cf⟩ := (Hrow.out.2.2.bel hBr).int (i := j) (by rw [← Hn.out]; exact hjn)
              have hfa : fAt q.fs j = f := by unfold fAt; rw [List.getD_eq_getElem?_getD, hxf]; rfl
              have HnextF : Hid (fldTo ns.length q.fs (j + 1) = (inB 0 ((m : Int) - 1) f && (decide (j = 0) || decide (fAt q.fs (j - 1) < f)))) := by rw [fldTo, HTj.out, hfa, Hm.out, Bool.true_and]; exact hide rfl
              have HbadF : Hid (fldTo ns.length q.fs (j + 1) = false → D = false) := hide fun h => Hbad.out (by
                rw [Hnext.out]
                cases hh : fldOk ns.length q.fs
                · rfl
                · rw [fldTo_le (j := j + 1) hh (by rw [← Hn.out]; omega)] at h; cases h)
              have HBr := hide hBr; have Hb2 := hide hb2
              have ij : (j : Int) < (n : Int) := by omega
              have hwm : IntKind.i64.wrap ((m : Int) - 1) = (m : Int) - 1 := wrapI (by omega)
              rw [hAf] at y2
              cases hif : inB 0 ((m : Int) - 1) f
              · have Hf := hide (HbadF.out (by rw [HnextF.out, hif]; rfl))
                have Hif := hide hif
                clear hif hBr hb2 hxf hfa
                go_upto_region 19 with fail
                go_quiet (exact within_quiet Hif.out)
                go_wp2_with fail
                go_ret
                exact ⟨ret_bool Hf.out.symm, below_drewN HBr.out _⟩
              rw [hif, Bool.true_and] at HnextF
              have Hif := hide hif
              by_cases hj0 : j = 0
              · have Hok : Hid (fldTo ns.length q.fs (j + 1) = true) := hide (by rw [HnextF.out, decide_eq_true hj0]; rfl)
                have d0 : decide ((0 : Int) < (j : Int)) = false := decide_eq_false (by omega)
                have d0' : decide (0 < j) = false := decide_eq_false (by omega)
                have d0'' : ¬ 0 < j := by omega
                clear hif hBr hb2 hxf hfa hj0
                go_upto_region 19 with fail
                go_quiet (exact within_quiet Hif.out)
                go_wp2_with fail
                exact ⟨⟨j + 1, by omega, by go_num, Hok, below_drewN Hb2.out _⟩, by simp [intOf]; omega⟩
              · obtain ⟨bg, og, g, hAg, _, hxg, cg⟩ := (Hrow.out.2.2.bel hBr).int (i := j - 1) (by rw [← Hn.out]; omega)
                have hgb : (some ⟨bg, og, none⟩ : Option Addr) = some ⟨bf, of, none⟩ := hAg.symm.trans hAf
                injection hgb with hgb
                injection hgb with hgb1 hgb2 _
                subst hgb1 hgb2
                have hga : fAt q.fs (j - 1) = g := by unfold fAt; rw [List.getD_eq_getElem?_getD, hxg]; rfl
                rw [hga, decide_eq_false hj0, Bool.false_or] at HnextF
                have jp : decide ((0 : Int) < (j : Int)) = true := decide_eq_true (by omega)
                have jp' : decide (0 < j) = true := decide_eq_true (by omega)
                have jp'' : 0 < j := by omega
                have e1 : ((j - 1 : Nat) : Int) = (j : Int) - 1 := by omega
                have wj : IntKind.i64.wrap ((j : Int) - 1) = ((j - 1 : Nat) : Int) := by rw [e1]; exact wrapI (by omega)
                have jn1 : ((j - 1 : Nat) : Int) < (n : Int) := by omega
                have jn0 : ¬ ((j - 1 : Nat) : Int) < 0 := by omega
                obtain ⟨p, hp⟩ : ∃ p, p = j - 1 := ⟨_, rfl⟩
                rw [← hp] at wj jn1 jn0 cg
                clear hif hBr hb2 hxf hfa hxg hga hAg hAf e1 hp
                by_cases hgf : g < f
                · have Hok : Hid (fldTo ns.length q.fs (j + 1) = true) := hide (by rw [HnextF.out]; exact decide_eq_true hgf)
                  have d1 : decide (f ≤ g) = false := decide_eq_false (by omega)
                  go_upto_region 19 with fail
                  go_quiet (exact within_quiet Hif.out)
                  go_wp2_with fail
                  exact ⟨⟨j + 1, by omega, by go_num, Hok, below_drewN Hb2.out _⟩, by simp [intOf]; omega⟩
                · have Hf := hide (HbadF.out (by rw [HnextF.out]; exact decide_eq_false hgf))
                  have d1 : decide (f ≤ g) = true := decide_eq_true (by omega)
                  go_upto_region 19 with fail
                  go_quiet (exact within_quiet Hif.out)
                  go_wp2_with fail
                  go_ret
                  exact ⟨ret_bool Hf.out.symm, below_drewN HBr.out _⟩
            · obtain rfl : n = j := by omega
              have hok : fldOk ns.length q.fs = true := by unfold fldOk; rw [← Hn.out]; exact HTj.out
              have Hok := hide (show rentTo ns.length rs (k + 1) = true by rw [Hnext.out, hok])
              have Hb0r := hide hB0r
              clear hok hb2 hB0r hBr
              go_wp2_with fail
              exact ⟨⟨k + 1, by omega, by rw [Hleft.out], by go_num, Hok, Hb0r.out⟩, by simp [intOf]; omega⟩
        · have hkr : k = rs.length := by have := Her.out; omega
          have Hf : Hid (D = true) := hide (by rw [Hg2.out, ← hkr]; exact HT.out)
          go_wp2_with fail
          go_ret
          exact ⟨ret_bool Hf.out.symm, hBw⟩
end Go.Proofs.Ytmbhnjpaieimbaa
