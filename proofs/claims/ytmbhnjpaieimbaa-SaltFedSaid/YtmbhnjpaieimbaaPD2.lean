/- Salt, outright: whether fields lack minutes, and whether needs and rents are ready, by contracts; the least fields that lack (plain). -/
import Derived.Test.YtmbhnjpaieimbaaPC5
import Derived.Test.YtmbhnjpaieimbaaPD1
import Derived.Test.YtmbhnjpaieimbaaPC7
import Derived.Test.YtmbhnjpaieimbaaC6
set_option linter.unusedVariables false
set_option linter.unusedSimpArgs false
namespace Go.Proofs.Ytmbhnjpaieimbaa
open Go.RowKit Go.Shelf
set_option maxHeartbeats 4000000 in
set_option maxRecDepth 100000 in
theorem sready_any (A1 A2 : Option Addr) (m c1 r c2 : Nat) (ns : List Int) (rs : List Rr) (w : World) (hN : Rd w w.heap.size icell A1 ns) (hm : m = ns.length) (hm2 : m ≤ 9223372036854775807) (hR : RsAt0 w A2 r rs) (hr2 : r ≤ 9223372036854775807) :
    Calls Try.prog 42 #[.slice A1 m c1, .slice A2 r c2] w fun e w' => e = .returned (.bool (!greatF ns rs && rentsOk ns rs)) ∧ Below w.heap.size w w' := by
  have Gr := hide (great6_any A1 A2 m c1 r c2 ns rs w hm hm2 hR hr2)
  have HR0 := hide hR; have HN := hide hN; have Hm := hide hm
  clear hR hN hm
  go_enter Try.func42, Try.ntmps42
  go_wp2_with fail
  refine Gr.out.mono ?_
  rintro e w1 ⟨rfl, hb1⟩
  cases hg : greatF ns rs
  · have hR := (HR0.out.small (ns := ns) hg).1.bel hb1
    have Hb := hide hb1; have Hg := hide hg
    clear hg hb1
    go_wp2_with fail
    refine (rrents_any A1 A2 m c1 r c2 ns rs w1 (HN.out.bel Hb.out) Hm.out hm2 hR hr2).mono ?_
    rintro e w2 ⟨rfl, hb2⟩
    go_wp2_with fail
    go_ret
    exact ⟨ret_bool (by rw [Hg.out]; rfl), Hb.out.trans (hb2.mono Hb.out.size)⟩
  · have Hg := hide hg
    clear hg
    go_wp2_with fail
    go_ret
    exact ⟨ret_bool (by rw [Hg.out]; rfl), hb1⟩
/-! ### sums over fields -/
def sumF (ns : List Int) : List Int → Int
  | [] => 0
  | x :: l => ns.getD x.toNat 0 + sumF ns l
theorem sumF_snoc (ns : List Int) (x : Int) : ∀ l, sumF ns (l ++ [x]) = sumF ns l + ns.getD x.toNat 0
  | [] => by simp [sumF]
  | y :: l => by
    show ns.getD y.toNat 0 + sumF ns (l ++ [x]) = _
    rw [sumF_snoc ns x l]
    show _ = ns.getD y.toNat 0 + sumF ns l + _
    omega
theorem sumF_set (ns : List Int) (S : Nat) : ∀ k, sumF ns (setL S k) = sumTo (needF1 ns S) k
  | 0 => rfl
  | k + 1 => by
    rw [setL_succ]
    show _ = sumTo (needF1 ns S) k + needF1 ns S k
    rw [← sumF_set ns S k]
    unfold needF1
    cases S.testBit k
    · simp
    · rw [if_pos rfl, if_pos rfl, sumF_snoc]; rfl
theorem sumF_bd {ns : List Int} (h : ∀ x ∈ ns, 0 ≤ x ∧ x ≤ 23040) : ∀ l, 0 ≤ sumF ns l ∧ sumF ns l ≤ l.length * 23040
  | [] => by simp [sumF]
  | x :: l => by
    have h1 := sumF_bd h l
    have h2 := getD_mem (p := fun x : Int => 0 ≤ x ∧ x ≤ 23040) (d := 0) h (by decide) x.toNat
    show 0 ≤ ns.getD x.toNat 0 + sumF ns l ∧ _ ≤ ((l.length + 1 : Nat) : Int) * 23040
    have e : sumF ns (x :: l) = ns.getD x.toNat 0 + sumF ns l := rfl
    omega
theorem setL_mem {S k : Nat} {x : Int} : x ∈ setL S k ↔ ∃ j : Nat, x = j ∧ j < k ∧ S.testBit j = true := by
  unfold setL
  rw [List.mem_map]
  constructor
  · rintro ⟨j, hj, rfl⟩
    rw [List.mem_filter, List.mem_range] at hj
    exact ⟨j, rfl, hj.1, by simpa using hj.2⟩
  · rintro ⟨j, rfl, h1, h2⟩
    exact ⟨j, by rw [List.mem_filter, List.mem_range]; exact ⟨h1, by simpa using h2⟩, rfl⟩
theorem bitsTo_bit {m : Nat} {fs : List Int} : ∀ {k}, fldTo m fs k = true → ∀ b, (bitsTo fs k).testBit b = true ↔ ∃ j, j < k ∧ fAt fs j = (b : Int)
  | 0, _, b => by simp [bitsTo]
  | k + 1, h, b => by
    rw [fldTo, Bool.and_eq_true, Bool.and_eq_true] at h
    have h2 := h.2.1
    simp [inB] at h2
    simp only [bitsTo, Nat.testBit_or, Nat.testBit_two_pow, Bool.or_eq_true, decide_eq_true_eq]
    rw [bitsTo_bit h.1]
    constructor
    · rintro (⟨j, hj, e⟩ | e)
      · exact ⟨j, by omega, e⟩
      · exact ⟨k, by omega, by omega⟩
    · rintro ⟨j, hj, e⟩
      by_cases hjk : j = k
      · subst hjk; exact .inr (by omega)
      · exact .inl ⟨j, by omega, e⟩
/-- A rent is for a field of a set. -/
theorem onS_fs {m : Nat} {fs : List Int} {S : Nat} (h : fldOk m fs = true) : (bitsF fs &&& S != 0) = true ↔ ∃ j, j < fs.length ∧ ∃ b : Nat, fAt fs j = (b : Int) ∧ S.testBit b = true := by
  have key : (bitsF fs &&& S != 0) = true ↔ ∃ b, (bitsF fs).testBit b = true ∧ S.testBit b = true := by
    constructor
    · intro h
      have h1 : bitsF fs &&& S ≠ 0 := by simpa using h
      obtain ⟨b, hb⟩ := Nat.exists_testBit_of_ne_zero h1
      rw [Nat.testBit_and, Bool.and_eq_true] at hb
      exact ⟨b, hb⟩
    · rintro ⟨b, h1, h2⟩
      have : (bitsF fs &&& S).testBit b = true := by rw [Nat.testBit_and, h1, h2]; rfl
      simp
      intro h0
      rw [h0] at this
      simp at this
  rw [key]
  constructor
  · rintro ⟨b, h1, h2⟩
    obtain ⟨j, hj, e⟩ := (bitsTo_bit h b).1 h1
    exact ⟨j, hj, b, e, h2⟩
  · rintro ⟨j, hj, b, e, h2⟩
    exact ⟨b, (bitsTo_bit h b).2 ⟨j, hj, e⟩, h2⟩
/-- What rents have for a set, rent by rent. -/
def onMi (rs : List Rr) (S i : Nat) : Int := if (bitsF (fsAt rs i) &&& S != 0) = true then miAt rs i else 0
theorem thereS_mi (rs : List Rr) (S : Nat) : ∀ k, k ≤ rs.length → sumTo (thereF (rs.map Rr.mi) (rs.map fun q => bitsF q.fs) S (-1)) k = sumTo (onMi rs S) k := fun k hk => sumTo_congr fun i hi => by
  have hir : i < rs.length := by omega
  have e1 : (rs.map Rr.mi).getD i 0 = miAt rs i := by unfold miAt; rw [List.getD_eq_getElem?_getD, List.getElem?_map]
  have e2 : (rs.map fun q => bitsF q.fs).getD i 0 = bitsF (fsAt rs i) := by
    unfold fsAt
    rw [List.getD_eq_getElem?_getD, List.getElem?_map, List.getElem?_eq_getElem hir]; rfl
  unfold thereF onMi onS
  rw [e1, e2]
  by_cases h : (bitsF (fsAt rs i) &&& S != 0) = true
  · rw [if_pos ⟨by omega, h⟩, if_pos h]
  · rw [if_neg (fun h' => h h'.2), if_neg h]
def lacksB (ns : List Int) (rs : List Rr) (S : Nat) : Bool := decide (thereS (rs.map Rr.mi) (rs.map fun q => bitsF q.fs) rs.length S (-1) < needS ns S)
set_option maxHeartbeats 40000000 in
set_option maxRecDepth 100000 in
theorem lacks_any (A1 A2 A3 : Option Addr) (m c1 r c2 n c3 : Nat) (ns : List Int) (rs : List Rr) (S : Nat) (w : World) (hN : Rd w w.heap.size icell A1 ns) (hm : m = ns.length) (hok : RentsOk ns rs) (hR : RsAt w A2 r rs) (hl : Rd w w.heap.size icell A3 (setL S m)) (hn : n = (setL S m).length) :
    Calls Try.prog 44 #[.slice A1 m c1, .slice A2 r c2, .slice A3 n c3] w fun e w' => e = .returned (.bool (lacksB ns rs S)) ∧ Below w.heap.size w w' := by
  have Hm := hide hm; have Her := hide hR.en; have HR := hide hR; have HN := hide hN; have Hok := hide hok; have HL := hide hl; have Hn := hide hn
  have hm8 : m ≤ 8 := by rw [hm]; exact hok.nl
  have hr8 : r ≤ 8 := by rw [hR.en]; exact hok.rl
  have hn8 : n ≤ 8 := by rw [hn]; have := setL_len S m; omega
  clear hm hR hN hok hl hn
  have hmm := @run_makeMap Try.prog
  have Hm0 := hide (Mp.made w Try.prog 3 4 ldB)
  have hB1 := below_new w (.map #[] 0)
  go_enter Try.func44, Try.ntmps44
  go_wp2_with fail
  clear hmm
  obtain ⟨bm, hbm⟩ : ∃ bm, bm = w.heap.size := ⟨_, rfl⟩
  obtain ⟨w1, hw1⟩ : ∃ w1, Hid (w.alloc (.map #[] 0) = w1) := ⟨_, hide rfl⟩
  rw [← hbm] at Hm0 ⊢
  rw [hw1.out] at Hm0 hB1 ⊢
  have hbw : w.heap.size ≤ bm := by omega
  have HB1 := hide hB1
  have hbm1 : bm < w1.heap.size := Hm0.out.lt
  clear hbm hw1 hB1
  go_loopw [7, 18] (fun zv iv wr => ∃ (k s : Nat) (f : Int → Option Bool), k ≤ n ∧ zv = .int .i64 (sumF ns ((setL S m).take k)) ∧ iv = .int .i64 k ∧ Hid (∀ x : Int, f x = if x ∈ (setL S m).take k then some true else none) ∧ Hid (Mp Try.prog 3 4 ldB wr bm k f s) ∧ Kept (fun b => b ≠ bm) w1 wr) (fun _ iv _ => n - (intOf iv).toNat)
  case atStart => exact ⟨0, 0, _, by omega, rfl, rfl, hide (fun x => by simp), Hm0, Kept.refl _ _⟩
  case round =>
    obtain ⟨k, s, f, hk, rfl, rfl, Hf, Hmp, hK⟩ := hrel
    have hB := HB1.out.trans (hK.below (fun b hb => by omega) HB1.out.size)
    by_cases hlt : k < n
    · obtain ⟨b3, o3, x, hA3, _, hx, cx⟩ := (HL.out.bel hB).int (i := k) (by rw [← Hn.out]; exact hlt)
      obtain ⟨j, rfl, hjm, hjS⟩ := setL_mem.1 (List.mem_of_getElem? hx)
      obtain ⟨b1, o1, y, hA1, _, hy, cy⟩ := (HN.out.bel hB).int (i := j) (by rw [← Hm.out]; exact hjm)
      have hyb := Hok.out.n y (List.mem_of_getElem? hy)
      have hgy : ns.getD j 0 = y := by rw [List.getD_eq_getElem?_getD, hy]; rfl
      have hsb := sumF_bd Hok.out.n ((setL S m).take k)
      have hlen : ((setL S m).take k).length = k := by rw [List.length_take, ← Hn.out]; omega
      rw [hlen] at hsb
      obtain ⟨z, hz⟩ : ∃ z, z = sumF ns ((setL S m).take k) := ⟨_, rfl⟩
      have Hnx : Hid (sumF ns ((setL S m).take (k + 1)) = z + y) := hide (by rw [take_snoc hx, sumF_snoc, hz]; show _ + ns.getD j 0 = _; rw [hgy])
      rw [← hz] at hsb ⊢
      have iw : IntKind.i64.wrap (z + y) = z + y := wrapI (by omega)
      have ik : (k : Int) < (n : Int) := by omega
      have ij : (j : Int) < (m : Int) := by omega
      have Hx := hide hx; have HK := hide hK
      have hokj : okI (j : Int) := ⟨by omega, by omega⟩
      have Hokj := hide hokj
      rw [hA3, hA1]
      clear hx hz hgy hlen hy hA3 hA1 hK hokj hjS
      go_wp2_with (at_mapUpdate; refine wpList_mapWrite rfl _ _ _ rfl mapB Hmp.out (by omega) rfl (j : Int) rfl Hokj.out true rfl trivial ?_; intro w5 hmp5 hg5)
      have hf' : Hid (∀ x : Int, upd f (j : Int) (some true) x = if x ∈ (setL S m).take (k + 1) then some true else none) := hide (fun x => by
        show (if x = (j : Int) then some true else f x) = _
        rw [take_snoc Hx.out]
        by_cases e : x = (j : Int)
        · rw [if_pos e, if_pos (by simp [e])]
        · rw [if_neg e, Hf.out x]
          by_cases h : x ∈ (setL S m).take k
          · rw [if_pos h, if_pos (by simp [h])]
          · rw [if_neg h, if_neg (by simp [h, e])])
      exact ⟨⟨k + 1, _, _, by omega, by rw [Hnx.out], by go_num, hf', hide hmp5, HK.out.trans ((Kept.grown hg5).mono fun b _ h e => by injection e with e; exact h e)⟩, by simp [intOf]; omega⟩
    · obtain rfl : n = k := by omega
      rw [List.take_of_length_le (by rw [← Hn.out]; exact Nat.le_refl _)] at Hf ⊢
      have hsum : sumF ns (setL S m) = needS ns S := by rw [sumF_set]; unfold needS; rw [Hm.out]
      rw [hsum]
      have hnb := needS_bd Hok.out.n Hok.out.nl S
      obtain ⟨nd, hnd⟩ : ∃ nd, nd = needS ns S := ⟨_, rfl⟩
      rw [← hnd] at hnb ⊢
      have Hnd := hide hnd
      obtain ⟨wo, rfl⟩ : ∃ wo, wo = wr := ⟨wr, rfl⟩
      have HBo := hide hB
      have hbo : bm < wo.heap.size := Hmp.out.lt
      clear hnd hsum hB hK
      go_wp2_with fail
      go_loopw [7, 33] (fun zv iv wr => ∃ (i : Nat), i ≤ r ∧ zv = .int .i64 (nd - sumTo (onMi rs S) i) ∧ iv = .int .i64 i ∧ Below wo.heap.size wo wr) (fun _ iv _ => r - (intOf iv).toNat)
      case atStart => exact ⟨0, by omega, by show Value.int .i64 nd = .int .i64 (nd - 0); rw [Int.sub_zero], rfl, Below.refl _ _⟩
      case round =>
        obtain ⟨i, hi, rfl, rfl, hb⟩ := hrel
        have hB := HBo.out.trans (hb.mono HBo.out.size)
        have hsb := sumTo_bd (f := onMi rs S) (M := 23040) (n := i) (fun j hj => by
          have := Hok.out.mi (i := j) (by have := Her.out; omega)
          unfold onMi; split <;> omega)
        by_cases hlt : i < r
        · have hir : i < rs.length := by have := Her.out; omega
          obtain ⟨b7, off, q, hA, hql, hqx, c0, c1', c2'⟩ := (HR.out.bel hB).rd.rr (i := i) hir
          obtain ⟨b8, w5, e8, ew5, hx8, hb5, hz5⟩ := mk_bx wr #[.int .i64 q.mi, .int .i64 q.pr, .slice q.A q.n q.c] 89
          have hmi : miAt rs i = q.mi := by unfold miAt; rw [hqx]; rfl
          have hfs : fsAt rs i = q.fs := by unfold fsAt; rw [hqx]; rfl
          have hmib := Hok.out.mi hir
          rw [hmi] at hmib
          have hfld : fldOk ns.length q.fs = true := by
            have h := rentTo_le (j := i + 1) Hok.out.rt (by omega)
            rw [rentTo, hfs, Bool.and_eq_true, Bool.and_eq_true, Bool.and_eq_true] at h
            exact h.2.2.2
          have Hrow := hide (HR.out.row q (List.mem_of_getElem? hqx))
          have ii : (i : Int) < (r : Int) := by omega
          obtain ⟨z, hz⟩ : ∃ z, z = nd - sumTo (onMi rs S) i := ⟨_, rfl⟩
          have hzb : -184320 ≤ z ∧ z ≤ 184320 := by omega
          have Hyes : Hid ((∃ j, j < q.fs.length ∧ ∃ b : Nat, fAt q.fs j = (b : Int) ∧ S.testBit b = true) → nd - sumTo (onMi rs S) (i + 1) = z - q.mi) := hide fun h => by
            have h1 := (onS_fs hfld).2 h
            show nd - (sumTo (onMi rs S) i + onMi rs S i) = _
            unfold onMi
            rw [hfs, if_pos h1, hmi, hz]
            unfold onMi; omega
          have Hno : Hid ((∀ j, j < q.fs.length → ∀ b : Nat, fAt q.fs j = (b : Int) → S.testBit b = false) → nd - sumTo (onMi rs S) (i + 1) = z) := hide fun h => by
            have h1 : ¬ (bitsF q.fs &&& S != 0) = true := fun h2 => by
              obtain ⟨j, hj, b, e, hb⟩ := (onS_fs hfld).1 h2
              rw [h j hj b e] at hb; cases hb
            show nd - (sumTo (onMi rs S) i + onMi rs S i) = _
            rw [show onMi rs S i = 0 by unfold onMi; rw [hfs, if_neg h1], hz]; omega
          rw [← hz]
          have hB5 := hB.trans (hb5.mono hB.size)
          have Hb5 := hide (hb.trans (hb5.mono hb.size)); have HB5 := hide hB5; have X8 := hide hx8; have Hfld := hide hfld
          obtain ⟨n2, hn2⟩ : ∃ n2, n2 = q.n := ⟨_, rfl⟩
          have Hn2 := hide (show n2 = q.fs.length by rw [hn2]; exact Hrow.out.1)
          have hn2k : n2 ≤ 1000 := by rw [hn2]; exact Hrow.out.2.1
          have Hn0 := hide hn2
          rw [hA]
          clear hqx hmi hfs hA hz hz5 hB hb hb5 hB5 hx8 hfld hn2 hsb
          go_upto_region 12 with fail
          rw [ew5.out, e8.out]
          clear c0 c1' c2' hql
          obtain ⟨y0, y1, y2⟩ := X8.out.at_.c3
          rw [← Hn0.out] at y2
          go_wp2_with fail
          clear y0 y1 y2
          go_loopw [7, 40] (fun zv jv wr => ∃ j : Nat, j ≤ n2 ∧ zv = .int .i64 z ∧ jv = .int .i64 j ∧ Hid (∀ j', j' < j → ∀ b : Nat, fAt q.fs j' = (b : Int) → S.testBit b = false) ∧ Below w5.heap.size w5 wr) (fun _ jv _ => n2 - (intOf jv).toNat)
          case atStart => exact ⟨0, by omega, rfl, rfl, hide (fun j h => by omega), Below.refl _ _⟩
          case round =>
            obtain ⟨j, hj, rfl, rfl, Hpre, hb2⟩ := hrel
            have hBr := HB5.out.trans (hb2.mono HB5.out.size)
            have hbr := Hb5.out.trans (hb2.mono Hb5.out.size)
            by_cases hjn : j < n2
            · obtain ⟨bf, of, x, hAf, _, hxf, cf⟩ := (Hrow.out.2.2.bel hBr).int (i := j) (by rw [← Hn2.out]; exact hjn)
              have hfa : fAt q.fs j = x := by unfold fAt; rw [List.getD_eq_getElem?_getD, hxf]; rfl
              have hxb : 0 ≤ x ∧ x < ns.length := by
                have h := fldTo_le (j := j + 1) Hfld.out (by rw [← Hn2.out]; omega)
                rw [fldTo, Bool.and_eq_true, Bool.and_eq_true] at h
                have h2 := h.2.1
                rw [hfa] at h2
                simp [inB] at h2; omega
              obtain ⟨b, rfl⟩ : ∃ b : Nat, x = b := ⟨x.toNat, by omega⟩
              have hmp := Hmp.out.below hbr hbo
              have Hmp2 := hide hmp
              obtain ⟨y0, y1, y2⟩ := (X8.out.bel hb2).at_.c3
              have ij : (j : Int) < (n2 : Int) := by omega
              have hokx : okI (b : Int) := by
                have := Hok.out.nl
                exact ⟨by omega, by omega⟩
              have Hokx := hide hokx
              have hfb : (f (b : Int)).getD false = S.testBit b := by
                rw [Hf.out]
                by_cases h : S.testBit b = true
                · rw [if_pos (setL_mem.2 ⟨b, rfl, by rw [Hm.out]; omega, h⟩), h]; rfl
                · rw [if_neg (fun h2 => by
                    obtain ⟨j2, e, _, h3⟩ := setL_mem.1 h2
                    obtain rfl : b = j2 := by omega
                    exact h h3)]
                  simpa using h
              have Hfb := hide hfb; have Hfa := hide hfa; have Hbr := hide hbr; have Hb2 := hide hb2
              have iw : IntKind.i64.wrap (z - q.mi) = z - q.mi := wrapI (by omega)
              rw [hAf]
              clear hfa hxf hmp hokx hfb hAf hbr hb2 hBr
              cases hbit : S.testBit b
              · rw [hbit] at Hfb
                have Hp' : Hid (∀ j', j' < j + 1 → ∀ b : Nat, fAt q.fs j' = (b : Int) → S.testBit b = false) := hide fun j' hj' b' e => by
                  by_cases hjj : j' = j
                  · rw [hjj, Hfa.out] at e
                    obtain rfl : b = b' := by omega
                    exact hbit
                  · exact Hpre.out j' (by omega) b' e
                clear hbit
                go_wp2_with (at_lookup; refine wpList_mapRead rfl _ _ rfl mapB Hmp2.out rfl (b : Int) rfl Hokx.out ?_; rw [Hfb.out])
                exact ⟨⟨j + 1, by omega, rfl, by go_num, Hp', Hb2.out⟩, by simp [intOf]; omega⟩
              · rw [hbit] at Hfb
                have Hy := hide (Hyes.out ⟨j, by rw [← Hn2.out]; exact hjn, b, Hfa.out, hbit⟩)
                clear hbit
                go_wp2_with (at_lookup; refine wpList_mapRead rfl _ _ rfl mapB Hmp2.out rfl (b : Int) rfl Hokx.out ?_; rw [Hfb.out])
                exact ⟨⟨i + 1, by omega, by rw [Hy.out], by go_num, Hbr.out⟩, by simp [intOf]; omega⟩
            · obtain rfl : n2 = j := by omega
              have Hn := hide (Hno.out (fun j' hj' => Hpre.out j' (by rw [Hn2.out]; exact hj')))
              have Hbr := hide hbr
              clear hbr hb2 hBr
              go_wp2_with fail
              exact ⟨⟨i + 1, by omega, by rw [Hn.out], by go_num, Hbr.out⟩, by simp [intOf]; omega⟩
        · obtain rfl : r = i := by omega
          have hth : thereS (rs.map Rr.mi) (rs.map fun q => bitsF q.fs) rs.length S (-1) = sumTo (onMi rs S) r := by
            unfold thereS; rw [thereS_mi rs S _ (Nat.le_refl _), Her.out]
          obtain ⟨t, ht⟩ : ∃ t, t = sumTo (onMi rs S) r := ⟨_, rfl⟩
          rw [← ht] at hth hsb ⊢
          have Hth := hide hth
          clear hth ht
          go_wp2_with fail
          go_ret
          refine ⟨ret_bool ?_, hB⟩
          unfold lacksB
          rw [Hth.out, ← Hnd.out]
/-! ### the least fields that lack -/
theorem earl_trans {a b c : List Int} : ∀ n k, earlFrom a b n k = true → earlFrom b c n k = true → earlFrom a c n k = true
  | 0, k, h, _ => by simp [earlFrom] at h
  | n + 1, k, h1, h2 => by
    unfold earlFrom at h1 h2 ⊢
    generalize a.getD k 0 = x at *
    generalize b.getD k 0 = y at *
    generalize c.getD k 0 = z at *
    by_cases e1 : x = y
    · subst e1
      rw [if_neg (by simp)] at h1
      by_cases e2 : x = z
      · subst e2
        rw [if_neg (by simp)] at h2 ⊢
        exact earl_trans n (k + 1) h1 h2
      · rw [if_pos e2] at h2 ⊢; exact h2
    · rw [if_pos e1] at h1
      simp at h1
      by_cases e2 : y = z
      · subst e2
        rw [if_pos e1]; simpa using h1
      · rw [if_pos e2] at h2
        simp at h2
        rw [if_pos (by omega)]; simp; omega
theorem lenC_trans {a b c : List Int} (h1 : lenC a b < 0) (h2 : lenC b c < 0) : lenC a c < 0 := by
  rw [lenC_iff] at *
  rcases h1 with h1 | ⟨h1, e1⟩
  · rcases h2 with h2 | ⟨h2, _⟩ <;> exact .inl (by omega)
  · rcases h2 with h2 | ⟨h2, e2⟩
    · exact .inl (by omega)
    · exact .inr ⟨by omega, earl_trans _ _ e1 (by rw [h1]; exact e2)⟩
theorem bestTo_is {ns hs : List Int} {ss : List Nat} {r : Nat} : ∀ N, match bestTo ns hs ss r N with
    | none => ∀ S, S < N → needS ns S ≤ thereS hs ss r S (-1)
    | some l => (∃ S, S < N ∧ ¬ needS ns S ≤ thereS hs ss r S (-1) ∧ l = setL S ns.length) ∧ ∀ S, S < N → ¬ needS ns S ≤ thereS hs ss r S (-1) → ¬ lenC (setL S ns.length) l < 0
  | 0 => by show ∀ S, _ → _; intro S h; omega
  | N + 1 => by
    have ih := bestTo_is (ns := ns) (hs := hs) (ss := ss) (r := r) N
    unfold bestTo
    by_cases hle : needS ns N ≤ thereS hs ss r N (-1)
    · rw [if_pos hle]
      cases hb : bestTo ns hs ss r N with
      | none =>
        rw [hb] at ih
        intro S hS
        by_cases e : S = N
        · rw [e]; exact hle
        · exact ih S (by omega)
      | some l =>
        rw [hb] at ih
        obtain ⟨⟨S0, h1, h2, h3⟩, h4⟩ := ih
        exact ⟨⟨S0, by omega, h2, h3⟩, fun S hS hn => by
          by_cases e : S = N
          · rw [e] at hn; exact absurd hle hn
          · exact h4 S (by omega) hn⟩
    · rw [if_neg hle]
      have irr : ¬ lenC (setL N ns.length) (setL N ns.length) < 0 := by
        have key : ∀ n k (l : List Int), earlFrom l l n k = false := by
          intro n
          induction n with
          | zero => intro k l; rfl
          | succ n ih => intro k l; unfold earlFrom; rw [if_neg (by simp)]; exact ih _ _
        rw [lenC_iff, key]; simp
      cases hb : bestTo ns hs ss r N with
      | none =>
        rw [hb] at ih
        refine ⟨⟨N, by omega, hle, rfl⟩, fun S hS hn => ?_⟩
        by_cases e : S = N
        · rw [e]; exact irr
        · exact absurd (ih S (by omega)) hn
      | some x =>
        rw [hb] at ih
        obtain ⟨⟨S0, h1, h2, h3⟩, h4⟩ := ih
        show match (if lenC (setL N ns.length) x < 0 then some (setL N ns.length) else some x) with | none => _ | some l => _
        by_cases hc : lenC (setL N ns.length) x < 0
        · rw [if_pos hc]
          refine ⟨⟨N, by omega, hle, rfl⟩, fun S hS hn => ?_⟩
          by_cases e : S = N
          · rw [e]; exact irr
          · exact fun h => h4 S (by omega) hn (lenC_trans h hc)
        · rw [if_neg hc]
          refine ⟨⟨S0, by omega, h2, h3⟩, fun S hS hn => ?_⟩
          by_cases e : S = N
          · rw [e]; exact hc
          · exact h4 S (by omega) hn
end Go.Proofs.Ytmbhnjpaieimbaa
