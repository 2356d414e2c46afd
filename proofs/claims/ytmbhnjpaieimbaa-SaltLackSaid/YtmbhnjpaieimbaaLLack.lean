/- SaltLack: there is a plan if and only if no fields lack minutes; those that are named do, and none of fewer, nor of as many that come before. The law returns true for all needs and rents, and another set of fields. No conditions. -/
import Derived.Test.YtmbhnjpaieimbaaPD2
import Derived.Test.YtmbhnjpaieimbaaPBH
import Derived.Test.YtmbhnjpaieimbaaOpenR
set_option linter.unusedVariables false
set_option linter.unusedSimpArgs false
namespace Go.Proofs.Ytmbhnjpaieimbaa
open Go.RowKit Go.Shelf Go.WideShapes Go.ChangeShapes Go.ChangeAt
theorem Rows.belR {α : Type} {w w' : World} {cells : α → List Value} {ss : List Sl} {xss : List (List α)} (h : Rows w w.heap.size cells ss xss) (hb : Below w.heap.size w w') : Rows w' w'.heap.size cells ss xss := (h.below hb).more hb.size
/-! ### a set as a byte -/
theorem ofInt_u8 (a : Nat) (ha : a < 256) : (BitVec.ofInt 8 (a : Int)).toNat = a := by
  rw [BitVec.ofInt_natCast, BitVec.toNat_ofNat]; exact Nat.mod_eq_of_lt (by omega)
theorem u8_and_nat (a b : Nat) (ha : a < 256) (hb : b < 256) : bits .and .u8 (a : Int) (b : Int) = ((a &&& b : Nat) : Int) := by
  have hx : a &&& b < 2 ^ 8 := Nat.and_lt_two_pow _ (by omega)
  show IntKind.u8.wrap ((BitVec.ofInt 8 (a : Int) &&& BitVec.ofInt 8 (b : Int)).toNat : Int) = _
  rw [BitVec.toNat_and, ofInt_u8 a ha, ofInt_u8 b hb]
  simp [IntKind.wrap, IntKind.signed, IntKind.bits]
  omega
theorem u8_test (s k : Nat) (hs : s < 256) : (bits BinOp.and IntKind.u8 ((s : Int) / 2 ^ k) 1 == 1) = s.testBit k := by
  have h1 : ((s : Int) / 2 ^ k) = ((s / 2 ^ k : Nat) : Int) := by norm_cast
  have h2 : s / 2 ^ k ≤ s := Nat.div_le_self _ _
  rw [h1, show (1 : Int) = ((1 : Nat) : Int) from rfl, u8_and_nat _ _ (by omega) (by omega), Nat.and_one_is_mod, Nat.testBit_eq_decide_div_mod_eq, Bool.eq_iff_iff]
  simp only [beq_iff_eq, decide_eq_true_eq]
  omega
/-! ### the plain law -/
theorem needS_mod (ns : List Int) (S : Nat) : needS ns (S % 2 ^ ns.length) = needS ns S := sumTo_congr fun k hk => by
  unfold needF1
  rw [Nat.testBit_mod_two_pow, decide_eq_true hk, Bool.true_and]
theorem lacksB_mod {ns : List Int} {rs : List Rr} (h : RentsOk ns rs) (S : Nat) : lacksB ns rs (S % 2 ^ ns.length) = lacksB ns rs S := by
  unfold lacksB
  rw [needS_mod]
  have e : thereS (rs.map Rr.mi) (rs.map fun q => bitsF q.fs) rs.length (S % 2 ^ ns.length) (-1) = thereS (rs.map Rr.mi) (rs.map fun q => bitsF q.fs) rs.length S (-1) := by
    unfold thereS
    rw [thereS_mi rs _ _ (Nat.le_refl _), thereS_mi rs _ _ (Nat.le_refl _)]
    refine sumTo_congr fun i hi => ?_
    unfold onMi
    have h1 := rentTo_le (j := i + 1) h.rt (by omega)
    rw [rentTo, Bool.and_eq_true, Bool.and_eq_true, Bool.and_eq_true] at h1
    have hfld := h1.2.2.2
    have key : (bitsF (fsAt rs i) &&& (S % 2 ^ ns.length) != 0) = (bitsF (fsAt rs i) &&& S != 0) := by
      rw [Bool.eq_iff_iff, onS_fs hfld, onS_fs hfld]
      constructor
      · rintro ⟨j, hj, b, e, hb⟩
        rw [Nat.testBit_mod_two_pow, Bool.and_eq_true] at hb
        exact ⟨j, hj, b, e, hb.2⟩
      · rintro ⟨j, hj, b, e, hb⟩
        have h2 := fldTo_le (j := j + 1) hfld (by omega)
        rw [fldTo, Bool.and_eq_true, Bool.and_eq_true] at h2
        have h3 := h2.2.1
        simp [inB] at h3
        exact ⟨j, hj, b, e, by rw [Nat.testBit_mod_two_pow, decide_eq_true (by omega), hb]; rfl⟩
    rw [key]
  rw [e]
theorem setL_mod (S m : Nat) : setL (S % 2 ^ m) m = setL S m := by
  unfold setL
  congr 1
  refine List.filter_congr fun j hj => ?_
  rw [List.mem_range] at hj
  rw [Nat.testBit_mod_two_pow, decide_eq_true hj, Bool.true_and]
theorem setL_sorted (S k : Nat) : (setL S k).Pairwise (· < ·) := by
  unfold setL
  refine List.Pairwise.map _ (R := (· < ·)) (fun a b (h : a < b) => by show (a : Int) < (b : Int); omega) ?_
  exact List.Pairwise.sublist List.filter_sublist List.pairwise_lt_range
/-- What the law asks. -/
structure LackIs (ns : List Int) (rs : List Rr) : Prop where
  yes : (boR ns rs).Feas (capsR rs) → lackF ns rs = ([], 6) ∧ ∀ S, lacksB ns rs S = false
  no : ¬ (boR ns rs).Feas (capsR rs) → ∃ S0, lackF ns rs = (setL S0 ns.length, 0) ∧ 0 < (setL S0 ns.length).length ∧ lacksB ns rs S0 = true ∧ ∀ S, lacksB ns rs S = true → ¬ lenC (setL S ns.length) (setL S0 ns.length) < 0
theorem lack_is {ns : List Int} {rs : List Rr} (h : RentsOk ns rs) : LackIs ns rs := by
  have hok : rentsOk ns rs = true := by
    have h1 : anyOut 0 23040 ns = false := by
      unfold anyOut
      rw [List.any_eq_false]
      intro x hx
      have := h.n x hx
      simp [outB]; omega
    simp [rentsOk, h.nl, h.rl, h1, h.rt]
  obtain ⟨g1, g2⟩ := sim_get (rs := rs) h.rl
  have hth : ∀ S, thereS (hsTo rs rs.length) (ssTo rs rs.length) rs.length S (-1) = thereS (rs.map Rr.mi) (rs.map fun q => bitsF q.fs) rs.length S (-1) := fun S => thereS_congr g1 g2 _ _ _
  have hlb : ∀ S, lacksB ns rs S = true ↔ ¬ needS ns S ≤ thereS (hsTo rs rs.length) (ssTo rs rs.length) rs.length S (-1) := fun S => by
    unfold lacksB; rw [hth]; simp
  have hfe : (boR ns rs).Feas (capsR rs) ↔ ∀ S, S < 2 ^ ns.length → needS ns S ≤ thereS (hsTo rs rs.length) (ssTo rs rs.length) rs.length S (-1) := by
    unfold boR capsR Bo.Feas
    constructor
    · intro hf S hS
      have := hf S hS
      rw [need_is, there_is, List.length_map] at this
      exact this
    · intro hf S hS
      rw [need_is, there_is, List.length_map]
      exact hf S hS
  have hb := bestTo_is (ns := ns) (hs := hsTo rs rs.length) (ss := ssTo rs rs.length) (r := rs.length) (2 ^ ns.length)
  have hmod : ∀ S, S % 2 ^ ns.length < 2 ^ ns.length := fun S => Nat.mod_lt _ (Nat.two_pow_pos _)
  constructor
  · intro hf
    have hall := hfe.1 hf
    have hno : ∀ S, lacksB ns rs S = false := fun S => by
      rw [← lacksB_mod h]
      cases hh : lacksB ns rs (S % 2 ^ ns.length)
      · rfl
      · exact absurd (hall _ (hmod S)) ((hlb _).1 hh)
    refine ⟨?_, hno⟩
    unfold lackF
    rw [if_pos hok]
    cases hbt : bestTo ns (hsTo rs rs.length) (ssTo rs rs.length) rs.length (2 ^ ns.length) with
    | none => rfl
    | some l =>
      rw [hbt] at hb
      obtain ⟨⟨S, h1, h2, _⟩, _⟩ := hb
      exact absurd (hall S h1) h2
  · intro hf
    cases hbt : bestTo ns (hsTo rs rs.length) (ssTo rs rs.length) rs.length (2 ^ ns.length) with
    | none =>
      rw [hbt] at hb
      exact absurd (hfe.2 hb) hf
    | some l =>
      rw [hbt] at hb
      obtain ⟨⟨S0, h1, h2, rfl⟩, h4⟩ := hb
      refine ⟨S0, ?_, ?_, (hlb _).2 h2, fun S hS => ?_⟩
      · unfold lackF
        rw [if_pos hok, hbt]
      · have hne := setL_ne (ns := ns) (hs := hsTo rs rs.length) (ss := ssTo rs rs.length) (r := rs.length) (fun x hx => by have := hsTo_ok h.rt x hx; omega) h.rl h2
        exact List.length_pos_iff.2 hne
      · rw [← lacksB_mod h] at hS
        have := h4 _ (hmod S) ((hlb _).1 hS)
        rwa [setL_mod] at this
set_option maxHeartbeats 40000000 in
set_option maxRecDepth 100000 in
theorem slack_walk (A1 A2 : Option Addr) (m c1 r c2 x : Nat) (ns : List Int) (rs : List Rr) (w : World) (hN : Rd w w.heap.size icell A1 ns) (hm : m = ns.length) (hm2 : m ≤ 9223372036854775807) (hR : RsAt0 w A2 r rs) (hr2 : r ≤ 9223372036854775807) (hx : x ≤ 255) :
    Calls Try.prog 9 #[.slice A1 m c1, .slice A2 r c2, .int .u8 (x : Int)] w fun e w' => e = .returned (.bool true) ∧ Below w.heap.size w w' := by
  have Hm := hide hm; have HN := hide hN; have HR0 := hide hR
  clear hm hN hR
  go_enter Try.func9, Try.ntmps9
  go_wp2_with fail
  refine (salive_any _).mono ?_
  rintro e w1 ⟨rfl, hb1⟩
  have hB := hb1
  clear hb1
  go_wp2_with fail
  refine (sready_any A1 A2 m c1 r c2 ns rs w1 (HN.out.bel hB) Hm.out hm2 (HR0.out.bel hB) hr2).mono ?_
  rintro e w2 ⟨rfl, hb2⟩
  replace hB := hB.trans (hb2.mono hB.size)
  clear hb2
  cases hrd : (!greatF ns rs && rentsOk ns rs)
  · clear hrd
    go_wp2_with fail
    go_ret
    exact ⟨rfl, hB⟩
  rw [Bool.and_eq_true, Bool.not_eq_true'] at hrd
  have HR := hide (HR0.out.small (ns := ns) hrd.1).1
  have Hro := hide (RentsOk.of hrd.2)
  have hm8 : m ≤ 8 := by rw [Hm.out]; exact Hro.out.nl
  have hr8 : r ≤ 8 := by rw [HR.out.en]; exact Hro.out.rl
  have HL := hide (lack_is Hro.out)
  clear hrd
  go_wp2_with fail
  refine (plan_any A1 A2 m c1 r c2 ns rs w2 (HN.out.bel hB) Hm.out hm2 (HR.out.bel hB) hr2).mono ?_
  rintro e w3 ⟨vA, rfl, ⟨ssA, oA, rA⟩, hb3⟩
  replace hB := hB.trans (hb3.mono hB.size)
  obtain ⟨A4, c4, rfl, pA⟩ := oA.rdn _ rfl
  have ssAl : ssA.length = (planF ns rs).1.length := rA.len
  rw [ssAl]
  clear hb3 oA ssAl
  go_wp2_with fail
  refine (lackR_any A1 A2 m c1 r c2 ns rs w3 (HN.out.bel hB) Hm.out hm2 (HR.out.bel hB) hr2).mono ?_
  rintro e w4 ⟨A6, n6, c6, rfl, hn6, hn68, r6, hb4⟩
  replace hB := hB.trans (hb4.mono hB.size)
  replace pA := pA.bel hb4; replace rA := rA.belR hb4
  have Hn6 := hide hn6; have R6 := hide r6; have PA := hide pA; have RA := hide rA
  have HB4 := hide hB
  clear hb4 hn6 r6 pA rA hB
  go_wp2_with fail
  go_loopw [13, 43] (fun lv kv wr => ∃ (k : Nat) (pl : Value), pl = lv ∧ k ≤ m ∧ kv = .int .i64 k ∧ Hid (Own wr w4.heap.size 3 1 icell pl (setL x k)) ∧ Below w4.heap.size w4 wr) (fun _ kv _ => m - (intOf kv).toNat)
  case atStart => exact ⟨0, _, rfl, by omega, rfl, hide (Own.nil _ _ _ _ _), Below.refl _ _⟩
  case round =>
    obtain ⟨k, pl, rfl, hk, rfl, HO, hb⟩ := hrel
    by_cases hltk : k < m
    · have ht := u8_test x k (by omega)
      have ik : (k : Int) < (m : Int) := by omega
      cases hts : x.testBit k
      · rw [hts] at ht
        have Hs : Hid (setL x (k + 1) = setL x k) := hide (by rw [setL_succ, hts]; simp)
        clear hts
        go_wp2_with fail
        exact ⟨⟨k + 1, pl, rfl, by omega, by go_num, by rw [Hs.out]; exact HO, hb⟩, by simp [intOf]; omega⟩
      · rw [hts] at ht
        have Hs : Hid (setL x (k + 1) = setL x k ++ [(k : Int)]) := hide (by rw [setL_succ, hts]; simp)
        have Hb := hide hb
        have hsz := hb.size
        have hlen : (setL x k).length + 1 ≤ 1000000 := by have := setL_len x k; omega
        clear hts hb
        go_wp2_with (at_builtin; refine wpList_app1 (v := pl) (xs := setL x k) (base := w4.heap.size) (k := 1) (bytes := 8) (E := 3) el_int rfl (.tmp 51) (.tmp 53) rfl rfl rfl HO.out (k : Int) rfl hlen hsz ?_; intro v' w10 o10 k10; have O10 := hide o10; have K10 := hide k10; clear o10 k10)
        exact ⟨⟨k + 1, v', rfl, by omega, by go_num, by rw [Hs.out]; exact O10, below_keptB Hb.out K10.out (Nat.le_refl _) Hb.out.size⟩, by simp [intOf]; omega⟩
    · obtain rfl : m = k := by omega
      obtain ⟨w5, rfl⟩ : ∃ w5, w5 = wr := ⟨wr, rfl⟩
      obtain ⟨no, hno⟩ : ∃ no, no = (setL x m).length := ⟨_, rfl⟩
      obtain ⟨Ao, co, rfl, ro⟩ := HO.out.rdn no hno.symm
      have hno8 : no ≤ 8 := by rw [hno]; have := setL_len x m; omega
      have Hno := hide hno; have RO := hide ro
      have H45 := hide hb
      have HB5 := hide (HB4.out.trans (hb.mono HB4.out.size))
      clear hno ro hb HO
      by_cases hf : (boR ns rs).Feas (capsR rs)
      · obtain ⟨hlf, hnl⟩ := HL.out.yes hf
        obtain ⟨p, c, hpf, hpl, hpc, _⟩ := plan_planned Hro.out hf
        rw [hlf]
        rw [hpf] at RA ⊢
        have Hpl := hide hpl; have Hpc := hide hpc
        have Hnl := hide (hnl x)
        obtain ⟨np, hnp⟩ : ∃ np, np = p.length := ⟨_, rfl⟩
        show _
        have hnp' : (p, c, (0 : Int)).1.length = np := by rw [hnp]
        rw [hnp']
        have Hnp := hide hnp
        clear hlf hnl hpf hpl hpc hnp hnp' hf
        go_wp2_with fail
        refine (rplanned_any A1 A2 A4 m c1 r c2 np c4 ns rs ssA p w5 (HN.out.bel HB5.out) Hm.out Hro.out (HR.out.bel HB5.out) Hnp.out (PA.out.bel H45.out) (RA.out.belR H45.out)).mono ?_
        rintro e w6 ⟨c', b, rfl, hy, hn, hb6⟩
        have HB6 := hide (HB5.out.trans (hb6.mono HB5.out.size))
        have H56 := hide hb6
        cases b
        · exact absurd Hpl.out (hn rfl).1
        obtain ⟨_, hcc⟩ := hy rfl
        have hcc2 : c' = c := by rw [hcc, Hpc.out, Hm.out]
        subst hcc2
        have t1 : (c' != c') = false := by simp
        have Hcc := hide hcc
        clear hy hn hcc hb6
        go_wp2_with fail
        refine (lacks_any A1 A2 Ao m c1 r c2 no co ns rs x w6 (HN.out.bel HB6.out) Hm.out Hro.out (HR.out.bel HB6.out) (RO.out.bel H56.out) Hno.out).mono ?_
        rintro e w7 ⟨rfl, hb7⟩
        rw [Hnl.out]
        have HB7 := hide (HB6.out.trans (hb7.mono HB6.out.size))
        clear hb7
        go_wp2_with fail
        go_ret
        exact ⟨rfl, HB7.out⟩
      · obtain ⟨S0, hlf, hpos, hl0, hmin⟩ := HL.out.no hf
        have hpn := plan_none Hro.out hf
        rw [hlf] at Hn6 R6 ⊢
        rw [hpn]
        rw [← Hm.out] at Hn6 R6 hpos hmin
        have Hl0 := hide hl0; have Hmin := hide hmin
        have hpos6 : 0 < n6 := by rw [Hn6.out]; exact hpos
        clear hlf hl0 hmin hpn hf hpos
        have t0 : ((n6 : Int) == 0) = false := by simp; omega
        obtain ⟨l, hl⟩ : ∃ l, l = setL S0 m := ⟨_, rfl⟩
        have Hmem : Hid (∀ i v, l[i]? = some v → 0 ≤ v ∧ v < (m : Int)) := hide fun i v h => by
          rw [hl] at h
          obtain ⟨j, rfl, h2, _⟩ := setL_mem.1 (List.mem_of_getElem? h)
          omega
        have Hsort : Hid (∀ i u v, l[i]? = some u → l[i + 1]? = some v → u < v) := hide fun i u v h1 h2 => by
          have := List.pairwise_iff_getElem.1 (setL_sorted S0 m)
          rw [← hl] at this
          obtain ⟨a1, b1⟩ := List.getElem?_eq_some_iff.1 h1
          obtain ⟨a2, b2⟩ := List.getElem?_eq_some_iff.1 h2
          have h3 := this i (i + 1) a1 a2 (by omega)
          rw [b1, b2] at h3
          exact h3
        have hxl : x < 256 := by omega
        obtain ⟨y, hy⟩ : ∃ y, y = setL x m := ⟨_, rfl⟩
        have Hll : Hid (l.length = n6) := hide (by rw [hl, Hn6.out])
        have Hyl : Hid (y.length = no) := hide (by rw [hy, Hno.out])
        have R6' : Hid (Rd w4 w4.heap.size icell A6 l) := hide (by rw [hl]; exact R6.out)
        have RO' : Hid (Rd w5 w5.heap.size icell Ao y) := hide (by rw [hy]; exact RO.out)
        have Hmin' : Hid (lacksB ns rs x = true → ¬ lenC y l < 0) := hide fun h => by rw [hy, hl]; exact Hmin.out x h
        have hn68' : n6 ≤ 8 := hn68
        have Hl := hide hl
        clear hl hy Hmin
        go_wp2_with fail
        go_loopw [106] (fun iv wr => ∃ i : Nat, i ≤ n6 ∧ iv = .int .i64 i ∧ Below w5.heap.size w5 wr) (fun iv _ => n6 - (intOf iv).toNat)
        case atStart => exact ⟨0, by omega, rfl, Below.refl _ _⟩
        case round =>
          obtain ⟨i, hi, rfl, hb⟩ := hrel
          by_cases hin : i < n6
          · obtain ⟨bf, of, f, hAf, hlf2, hxf, cf⟩ := ((R6'.out.bel H45.out).bel hb).int (i := i) (by rw [Hll.out]; exact hin)
            have hmm := Hmem.out i f hxf
            have d0 : decide (f < 0) = false := decide_eq_false (by omega)
            have d1 : decide ((m : Int) ≤ f) = false := decide_eq_false (by omega)
            have ii : (i : Int) < (n6 : Int) := by omega
            have Hb := hide hb
            by_cases hi0 : i = 0
            · subst hAf
              have j0 : decide ((0 : Int) < (i : Int)) = false := decide_eq_false (by omega)
              have j0' : decide (0 < i) = false := decide_eq_false (by omega)
              have j0'' : ¬ 0 < i := by omega
              clear hxf hb hi0
              go_wp2_with fail
              exact ⟨⟨i + 1, by omega, by go_num, Hb.out⟩, by simp [intOf]; omega⟩
            · obtain ⟨bg, og, g, hAg, _, hxg, cg⟩ := ((R6'.out.bel H45.out).bel hb).int (i := i - 1) (by rw [Hll.out]; omega)
              have hgb : (some ⟨bg, og, none⟩ : Option Addr) = some ⟨bf, of, none⟩ := hAg.symm.trans hAf
              injection hgb with hgb
              injection hgb with hgb1 hgb2 _
              subst hgb1 hgb2
              have hgf : g < f := Hsort.out (i - 1) g f hxg (by rw [show i - 1 + 1 = i from by omega]; exact hxf)
              have d2 : decide (f ≤ g) = false := decide_eq_false (by omega)
              have jp : decide ((0 : Int) < (i : Int)) = true := decide_eq_true (by omega)
              have jp' : decide (0 < i) = true := decide_eq_true (by omega)
              have jp'' : 0 < i := by omega
              have e1 : ((i - 1 : Nat) : Int) = (i : Int) - 1 := by omega
              have wj : IntKind.i64.wrap ((i : Int) - 1) = ((i - 1 : Nat) : Int) := by rw [e1]; exact wrapI (by omega)
              have jn1 : ((i - 1 : Nat) : Int) < (n6 : Int) := by omega
              have jn0 : ¬ ((i - 1 : Nat) : Int) < 0 := by omega
              obtain ⟨p, hp⟩ : ∃ p, p = i - 1 := ⟨_, rfl⟩
              rw [← hp] at wj jn1 jn0 cg
              subst hAf
              clear hxf hb hxg hAg e1 hp hgf
              go_wp2_with fail
              exact ⟨⟨i + 1, by omega, by go_num, Hb.out⟩, by simp [intOf]; omega⟩
          · obtain rfl : n6 = i := by omega
            obtain ⟨w6, rfl⟩ : ∃ w6, w6 = wr := ⟨wr, rfl⟩
            have H56 := hide hb
            have H46 := hide (H45.out.trans (hb.mono H45.out.size))
            have HB6 := hide (HB5.out.trans (hb.mono HB5.out.size))
            clear hb
            go_wp2_with fail
            refine (lacks_any A1 A2 A6 m c1 r c2 n6 c6 ns rs S0 w6 (HN.out.bel HB6.out) Hm.out Hro.out (HR.out.bel HB6.out) (by rw [← Hl.out]; exact R6'.out.bel H46.out) Hn6.out).mono ?_
            rintro e w7 ⟨rfl, hb7⟩
            rw [Hl0.out]
            have HB7 := hide (HB6.out.trans (hb7.mono HB6.out.size))
            have H67 := hide hb7
            clear hb7
            go_wp2_with fail
            refine (lacks_any A1 A2 Ao m c1 r c2 no co ns rs x w7 (HN.out.bel HB7.out) Hm.out Hro.out (HR.out.bel HB7.out) ((RO.out.bel H56.out).bel H67.out) Hno.out).mono ?_
            rintro e w8 ⟨rfl, hb8⟩
            have HB8 := hide (HB7.out.trans (hb8.mono HB7.out.size))
            have H58 := hide ((H56.out.trans (H67.out.mono H56.out.size)).trans (hb8.mono (H56.out.trans (H67.out.mono H56.out.size)).size))
            have H48 := hide (H45.out.trans (H58.out.mono H45.out.size))
            clear hb8
            cases hlx : lacksB ns rs x
            · clear hlx
              go_wp2_with fail
              go_ret
              exact ⟨rfl, HB8.out⟩
            have hmn : ¬ lenC y l < 0 := by have := Hmin'.out hlx; omega
            rw [lenC_iff, Hyl.out, Hll.out] at hmn
            clear hlx
            by_cases hgt : n6 < no
            · have dg : decide ((n6 : Int) < (no : Int)) = true := decide_eq_true (by omega)
              have dg' : decide (n6 < no) = true := decide_eq_true hgt
              clear hmn
              go_wp2_with fail
              go_ret
              exact ⟨rfl, HB8.out⟩
            obtain rfl : no = n6 := by
              rcases Nat.lt_trichotomy no n6 with h | h | h
              · exact absurd (.inl h) hmn
              · exact h
              · exact absurd h hgt
            have Hear : Hid (earlFrom y l no 0 = false) := hide (by
              cases he : earlFrom y l no 0
              · rfl
              · exact absurd (.inr ⟨rfl, he⟩) hmn)
            clear hmn hgt
            go_wp2_with fail
            go_loopw [158] (fun iv wr => ∃ i : Nat, i ≤ no ∧ iv = .int .i64 i ∧ Hid (earlFrom y l (no - i) i = false) ∧ Below w8.heap.size w8 wr) (fun iv _ => no - (intOf iv).toNat)
            case atStart => exact ⟨0, by omega, rfl, Hear, Below.refl _ _⟩
            case round =>
              obtain ⟨i, hi, rfl, HE, hb⟩ := hrel
              by_cases hin : i < no
              · obtain ⟨bf, of, f, hAf, hlf2, hxf, cf⟩ := ((R6'.out.bel H48.out).bel hb).int (i := i) (by rw [Hll.out]; exact hin)
                obtain ⟨bg, og, g, hAg, _, hxg, cg⟩ := ((RO'.out.bel H58.out).bel hb).int (i := i) (by rw [Hyl.out]; exact hin)
                have ii : (i : Int) < (no : Int) := by omega
                have he := HE.out
                rw [show no - i = (no - (i + 1)) + 1 from by omega, earlFrom, show y.getD i 0 = g from by rw [List.getD_eq_getElem?_getD, hxg]; rfl, show l.getD i 0 = f from by rw [List.getD_eq_getElem?_getD, hxf]; rfl] at he
                have Hb := hide hb
                clear HE
                by_cases hfg : f = g
                · subst hfg
                  rw [if_neg (by simp)] at he
                  have He := hide he
                  have t1 : (f != f) = false := by simp
                  subst hAf hAg
                  clear hxf hxg he hb
                  go_upto_region 37 with fail
                  go_quiet (fail)
                  go_wp2_with fail
                  exact ⟨⟨i + 1, by omega, by go_num, He, below_drewN Hb.out _⟩, by simp [intOf]; omega⟩
                · rw [if_pos (fun h => hfg h.symm), decide_eq_false_iff_not] at he
                  have d0 : decide (f < g) = true := decide_eq_true (by omega)
                  have t1 : (f != g) = true := by simpa using hfg
                  subst hAf hAg
                  clear hxf hxg he hb hfg
                  go_upto_region 37 with fail
                  go_quiet (fail)
                  go_upto_region 38 with fail
                  go_quiet (fail)
                  go_wp2_with fail
                  go_ret
                  exact ⟨rfl, HB8.out.trans ((below_drewN (below_drewN Hb.out _) _).mono HB8.out.size)⟩
              · have Hb := hide hb
                clear hb
                go_wp2_with fail
                go_ret
                exact ⟨rfl, HB8.out.trans (Hb.out.mono HB8.out.size)⟩
set_option maxRecDepth 100000 in
theorem saltLack_lifted (os : Os) (started : os.Started) (H : Type) (enc : TypeId × Value → H) :
    ReturnsInHanded {} Try.checked os 9 .any (Rows.saltLackSpec.pre6 enc Try.prog Try.f9 Rows.saltLackRow.domain false) (Rows.saltLackSpec.post enc Try.prog Try.f9 false true false false) := by
  refine law_lifted os started H enc (s := Rows.saltLackSpec) Try.func9 (by kernel_rfl) ?_ rfl Try.underlying4 rfl (of_decide_eq_true (by kernel_rfl))
    (ChangeSpec.witness6 (enc := enc) (C := Try.checked) false ⟨#[], #[.slice none 0 0, .slice none 0 0, .int .u8 0], []⟩ 8 (by kernel_rfl) (by kernel_rfl) (by kernel_rfl) (by kernel_rfl)) ?_
  · intro ds hds
    match ds, hds with
    | [a, b, c], _ => rfl
  · intro W base args ds ps hval hA hlt
    rw [Try.params9] at hA hval
    obtain ⟨v0, v1, v2, d0, d1, d2, p0, p1, p2, rfl, rfl, rfl, h0, h1, h2⟩ := trodAll_three hA
    obtain ⟨A1, m, c1, ns, rfl, hm, hm2, hN, _⟩ := open_sl shape_int Try.underlying41 cells_int icell_len (by omega) (hval 0 _ v0 rfl rfl) h0
    obtain ⟨A2, r, c2, rs, rfl, hr2, hR, _⟩ := open_rents (hval 1 _ v1 rfl rfl) h1
    obtain ⟨x, rfl, hx⟩ := open_u8 (hval 2 _ v2 rfl rfl) h2
    exact slack_walk A1 A2 m c1 r c2 x ns rs W hN hm hm2 hR hr2 hx

theorem saltLack_holds : Rows.SaltLackSaid :=
  OpenClaim.holds_of_wide 9 Try.f9 rfl rfl rfl rfl rfl rfl rfl ⟨rfl, rfl, rfl, rfl, rfl⟩ rfl rfl rfl rfl rfl (by kernel_rfl) Try.func9 (by kernel_rfl)
    (of_decide_eq_true (by kernel_rfl)) (by unfold Func.isWrapper; rw [if_neg (of_decide_eq_false (by kernel_rfl))]; exact ⟨rfl, rfl⟩)
    (fun os started H enc _ => saltLack_lifted os started H enc)
#print axioms saltLack_holds
end Go.Proofs.Ytmbhnjpaieimbaa
