/- Salt: fields that lack minutes, in the reference, by contract. -/
import Derived.Test.YtmbhnjpaieimbaaPC5
import Derived.Test.YtmbhnjpaieimbaaPC3
import Derived.Test.YtmbhnjpaieimbaaPBG
set_option linter.unusedVariables false
set_option linter.unusedSimpArgs false
namespace Go.Proofs.Ytmbhnjpaieimbaa
open Go.RowKit Go.Shelf
theorem sim_ms {rs : List Rr} {m : Nat} (h8 : rs.length ≤ 8) (hm : m ≤ 8) (hrt : rentTo m rs rs.length = true) : (∀ x ∈ rs.map Rr.mi, 0 ≤ x ∧ x ≤ 200000) ∧ (∀ x ∈ (rs.map fun q => bitsF q.fs), x < 256) := by
  refine ⟨fun x hx => ?_, fun x hx => ?_⟩
  · obtain ⟨q, hq, rfl⟩ := List.mem_map.1 hx
    obtain ⟨j, hj, hjq⟩ := List.getElem_of_mem hq
    have h1 := rentTo_le (j := j + 1) hrt (by omega)
    have h2 := leftTo_bd (rentTo_le (j := j) hrt (by omega))
    rw [rentTo, Bool.and_eq_true, Bool.and_eq_true] at h1
    have e : miAt rs j = q.mi := by unfold miAt; rw [List.getElem?_eq_getElem hj, hjq]; rfl
    have h3 := h1.2.1
    rw [e] at h3
    simp [inB] at h3
    omega
  · obtain ⟨q, hq, rfl⟩ := List.mem_map.1 hx
    obtain ⟨j, hj, hjq⟩ := List.getElem_of_mem hq
    have h1 := rentTo_le (j := j + 1) hrt (by omega)
    rw [rentTo, Bool.and_eq_true, Bool.and_eq_true, Bool.and_eq_true] at h1
    have e : fsAt rs j = q.fs := by unfold fsAt; rw [List.getElem?_eq_getElem hj, hjq]; rfl
    have h3 := h1.2.2.2
    rw [e] at h3
    exact bitsTo_lt hm h3
theorem setL8 {S m : Nat} (hm : m ≤ 8) (hS : S < 2 ^ m) : setL S 8 = setL S m := by
  have key : ∀ d, setL S (m + d) = setL S m := fun d => by
    induction d with
    | zero => rfl
    | succ d ih =>
      have hb : S.testBit (m + d) = false := Nat.testBit_lt_two_pow (Nat.lt_of_lt_of_le hS (Nat.pow_le_pow_right (by omega) (by omega)))
      rw [← Nat.add_assoc, setL_succ, hb, ih]; simp
  have := key (8 - m)
  rwa [show m + (8 - m) = 8 by omega] at this
/-- Whether a list comes before another one of its length. -/
def earlFrom (a b : List Int) : Nat → Nat → Bool
  | 0, _ => false
  | n + 1, k => if a.getD k 0 ≠ b.getD k 0 then decide (a.getD k 0 < b.getD k 0) else earlFrom a b n (k + 1)
theorem lex_earl {a b : List Int} (hl : a.length = b.length) : ∀ n k, n + k = a.length → (lexFrom a b n k < 0 ↔ earlFrom a b n k = true)
  | 0, k, h => by unfold lexFrom earlFrom; rw [if_neg (by omega)]; simp
  | n + 1, k, h => by
    unfold lexFrom earlFrom
    rw [if_neg (by omega)]
    generalize a.getD k 0 = x
    generalize b.getD k 0 = y
    by_cases e : x = y
    · have h0 : cmpI x y = 0 := by unfold cmpI; rw [if_neg (by omega), if_neg (by omega)]
      rw [if_neg (by rw [h0]; simp), if_neg (by simp [e])]
      exact lex_earl hl n (k + 1) (by omega)
    · rw [if_pos e]
      by_cases h1 : x < y
      · have h0 : cmpI x y = -1 := by unfold cmpI; rw [if_pos h1]
        rw [if_pos (by rw [h0]; decide), h0]; simp [h1]
      · have h0 : cmpI x y = 1 := by unfold cmpI; rw [if_neg h1, if_pos (by omega)]
        rw [if_pos (by rw [h0]; decide), h0]; simp [h1]
theorem lenC_iff {l x : List Int} : lenC l x < 0 ↔ l.length < x.length ∨ (l.length = x.length ∧ earlFrom l x l.length 0 = true) := by
  unfold lenC
  by_cases h1 : l.length < x.length
  · have h0 : cmpI (l.length : Int) (x.length : Int) = -1 := by unfold cmpI; rw [if_pos (by omega)]
    rw [h0, if_neg (by decide)]; simp [h1]
  · by_cases h2 : x.length < l.length
    · have h0 : cmpI (l.length : Int) (x.length : Int) = 1 := by unfold cmpI; rw [if_neg (by omega), if_pos (by omega)]
      rw [h0, if_neg (by decide)]
      constructor
      · intro h; omega
      · rintro (h | ⟨h, _⟩) <;> omega
    · have he : l.length = x.length := by omega
      have h0 : cmpI (l.length : Int) (x.length : Int) = 0 := by unfold cmpI; rw [if_neg (by omega), if_neg (by omega)]
      rw [h0, if_pos rfl, show lexC l x = lexFrom l x l.length 0 from rfl, lex_earl he _ _ (by omega)]
      constructor
      · exact fun h => .inr ⟨he, h⟩
      · rintro (h | ⟨_, h⟩)
        · omega
        · exact h
theorem sim_get {rs : List Rr} (h8 : rs.length ≤ 8) : (∀ j, (hsTo rs rs.length).getD j 0 = (rs.map Rr.mi).getD j 0) ∧ ∀ j, (ssTo rs rs.length).getD j 0 = (rs.map fun q => bitsF q.fs).getD j 0 := by
  refine ⟨fun j => ?_, fun j => ?_⟩
  · by_cases hj : j < rs.length
    · rw [hsTo_get rs hj h8]
      unfold miAt
      rw [List.getD_eq_getElem?_getD, List.getElem?_map]
    · have key : ∀ k j, k ≤ j → (hsTo rs k).getD j 0 = 0 := by
        intro k
        induction k with
        | zero =>
          intro j _
          simp only [hsTo, List.getD_eq_getElem?_getD, List.getElem?_replicate]
          split <;> rfl
        | succ k ih =>
          intro j h
          simp only [hsTo, List.getD_eq_getElem?_getD]
          rw [List.getElem?_set_ne (by omega), ← List.getD_eq_getElem?_getD]
          exact ih j (by omega)
      rw [key _ _ (by omega), List.getD_eq_getElem?_getD, List.getElem?_eq_none (by simp; omega)]; rfl
  · by_cases hj : j < rs.length
    · rw [ssTo_get rs hj h8]
      unfold fsAt
      rw [List.getD_eq_getElem?_getD, List.getElem?_map, List.getElem?_eq_getElem hj]; rfl
    · rw [ssTo_out rs _ _ (by omega), List.getD_eq_getElem?_getD, List.getElem?_eq_none (by simp; omega)]; rfl
theorem thereS_congr {hs hs' : List Int} {ss ss' : List Nat} (h : ∀ j, hs.getD j 0 = hs'.getD j 0) (s : ∀ j, ss.getD j 0 = ss'.getD j 0) (r S : Nat) (b : Int) : thereS hs ss r S b = thereS hs' ss' r S b :=
  sumTo_congr fun j _ => by unfold thereF onS; rw [h, s]
theorem bestTo_congr {ns hs hs' : List Int} {ss ss' : List Nat} {r : Nat} (h : ∀ j, hs.getD j 0 = hs'.getD j 0) (s : ∀ j, ss.getD j 0 = ss'.getD j 0) : ∀ S, bestTo ns hs ss r S = bestTo ns hs' ss' r S
  | 0 => rfl
  | S + 1 => by
    unfold bestTo
    rw [thereS_congr h s, bestTo_congr h s S]
set_option maxHeartbeats 4000000 in
set_option maxRecDepth 100000 in
theorem rlist_any (S : Nat) (w : World) (hS : S < 256) :
    Calls Try.prog 81 #[.int .i64 (S : Nat)] w fun e w' => ∃ v, e = .returned v ∧ Own w' w.heap.size 3 1 icell v (setL S 8) ∧ Below w.heap.size w w' := by
  go_enter Try.func81, Try.ntmps81
  go_wp2_with fail
  go_loopw [3, 4] (fun lv kv wr => ∃ (k : Nat) (pl : Value), pl = lv ∧ k ≤ 8 ∧ kv = .int .i64 k ∧ Hid (Own wr w.heap.size 3 1 icell pl (setL S k)) ∧ Below w.heap.size w wr) (fun _ kv _ => 8 - (intOf kv).toNat)
  case atStart => exact ⟨0, _, rfl, by omega, rfl, hide (Own.nil _ _ _ _ _), Below.refl _ _⟩
  case round =>
    obtain ⟨k, pl, rfl, hk, rfl, HO, hb⟩ := hrel
    by_cases hltk : k < 8
    · have ht := shr_test S k (by omega)
      have ik : (k : Int) < 8 := by omega
      cases hts : S.testBit k
      · rw [hts] at ht
        have Hs : Hid (setL S (k + 1) = setL S k) := hide (by rw [setL_succ, hts]; simp)
        clear hts
        go_wp2_with fail
        exact ⟨⟨k + 1, pl, rfl, by omega, by go_num, by rw [Hs.out]; exact HO, hb⟩, by simp [intOf]; omega⟩
      · rw [hts] at ht
        have Hs : Hid (setL S (k + 1) = setL S k ++ [(k : Int)]) := hide (by rw [setL_succ, hts]; simp)
        have Hb := hide hb
        have hsz := hb.size
        have hlen : (setL S k).length + 1 ≤ 1000000 := by have := setL_len S k; omega
        clear hts hb
        go_wp2_with (at_builtin; refine wpList_app1 (v := pl) (xs := setL S k) (base := w.heap.size) (k := 1) (bytes := 8) (E := 3) el_int rfl (.tmp 14) (.tmp 16) rfl rfl rfl HO.out (k : Int) rfl hlen hsz ?_; intro v' w10 o10 k10; have O10 := hide o10; have K10 := hide k10; clear o10 k10)
        exact ⟨⟨k + 1, v', rfl, by omega, by go_num, by rw [Hs.out]; exact O10, below_keptB Hb.out K10.out (Nat.le_refl _) Hb.out.size⟩, by simp [intOf]; omega⟩
    · obtain rfl : k = 8 := by omega
      go_wp2_with fail
      go_ret
      exact ⟨_, rfl, HO.out, hb⟩
set_option maxHeartbeats 4000000 in
set_option maxRecDepth 100000 in
theorem earlier6_any (A B : Option Addr) (n c m d : Nat) (xs ys : List Int) (w : World) (hx : Rd w w.heap.size icell A xs) (hy : Rd w w.heap.size icell B ys) (hn : n = xs.length) (hm : m = ys.length) (hnm : n = m) (hn2 : n ≤ 1000) :
    Calls Try.prog 82 #[.slice A n c, .slice B m d] w fun e w' => e = .returned (.bool (earlFrom xs ys n 0)) ∧ Below w.heap.size w w' := by
  have Hn := hide hn; have Hm := hide hm; have Hx := hide hx; have Hy := hide hy; have Hnm := hide hnm
  obtain ⟨D, hD⟩ : ∃ D, D = earlFrom xs ys n 0 := ⟨_, rfl⟩
  rw [← hD]
  have HD := hide hD
  clear hn hm hx hy hD hnm
  go_enter Try.func82, Try.ntmps82
  go_wp2_with fail
  go_loopw [5] (fun iv wr => ∃ k : Nat, k ≤ n ∧ iv = .int .i64 k ∧ Hid (D = earlFrom xs ys (n - k) k) ∧ Below w.heap.size w wr) (fun iv _ => n - (intOf iv).toNat)
  case atStart => exact ⟨0, by omega, rfl, HD, Below.refl _ _⟩
  case round =>
    obtain ⟨k, hk, rfl, HL, hb⟩ := hrel
    by_cases hlt : k < n
    · obtain ⟨ba, oa, x, hA, hla, hxk, cx⟩ := (Hx.out.below hb).int (i := k) (by have := Hn.out; omega)
      obtain ⟨bb, ob, y, hB, hlb, hyk, cy⟩ := (Hy.out.below hb).int (i := k) (by have := Hm.out; have := Hnm.out; omega)
      have hgx : xs.getD k 0 = x := by rw [List.getD_eq_getElem?_getD, hxk]; rfl
      have hgy : ys.getD k 0 = y := by rw [List.getD_eq_getElem?_getD, hyk]; rfl
      have hL := HL.out
      rw [show n - k = (n - (k + 1)) + 1 by omega, earlFrom, hgx, hgy] at hL
      have ik : (k : Int) < (n : Int) := by omega
      have im : (k : Int) < (m : Int) := by have := Hnm.out; omega
      have Hb := hide hb
      subst hA hB
      clear hgx hgy hxk hyk hb hla hlb
      by_cases hxy : x = y
      · rw [if_neg (by simp [hxy])] at hL
        have HL2 := hide hL
        have e1 : (x == y) = true := by simp [hxy]
        have e2 : (x != y) = false := by simp [hxy]
        have Hxy := hide hxy
        clear hL hxy
        go_upto_region 4 with fail
        go_quiet (fail)
        go_wp2_with fail
        exact ⟨⟨k + 1, by omega, by go_num, HL2, below_drewN Hb.out _⟩, by simp [intOf]; omega⟩
      · rw [if_pos hxy] at hL
        have HL2 := hide hL
        have e1 : (x == y) = false := by simp [hxy]
        have e2 : (x != y) = true := by simp [hxy]
        have Hxy := hide hxy
        clear hL hxy
        go_upto_region 4 with fail
        go_quiet (fail)
        go_upto_region 5 with fail
        go_quiet (fail)
        go_wp2_with fail
        go_ret
        exact ⟨ret_bool HL2.out.symm, below_drewN (below_drewN Hb.out _) _⟩
    · obtain rfl : n = k := by omega
      have hL := HL.out
      rw [Nat.sub_self, earlFrom] at hL
      have HL2 := hide hL
      clear hL
      go_wp2_with fail
      go_ret
      exact ⟨ret_bool HL2.out.symm, hb⟩
set_option maxHeartbeats 4000000 in
set_option maxRecDepth 100000 in
theorem rlack_any (A1 A2 : Option Addr) (m c1 r c2 : Nat) (ns : List Int) (rs : List Rr) (w : World) (hN : Rd w w.heap.size icell A1 ns) (hm : m = ns.length) (hm2 : m ≤ 9223372036854775807) (hR : RsAt w A2 r rs) (hr2 : r ≤ 9223372036854775807) :
    Calls Try.prog 32 #[.slice A1 m c1, .slice A2 r c2] w fun e w' => ∃ A n c, e = .returned (.tuple #[.slice A n c, .int .i64 (lackF ns rs).2]) ∧ n = (lackF ns rs).1.length ∧ n ≤ 8 ∧ Rd w' w'.heap.size icell A (lackF ns rs).1 ∧ Below w.heap.size w w' := by
  have Hm := hide hm; have Her := hide hR.en; have HR := hide hR; have HN := hide hN
  have Hrr := hide (rrents_any A1 A2 m c1 r c2 ns rs w hN hm hm2 hR hr2)
  clear hm hR hN
  go_enter Try.func32, Try.ntmps32
  go_wp2_with fail
  refine Hrr.out.mono ?_
  rintro e w1 ⟨rfl, hb1⟩
  have hB1 := hide hb1
  clear Hrr hb1
  cases hok : rentsOk ns rs
  · have hp : Hid (lackF ns rs = ([], 62)) := hide (by unfold lackF; rw [hok]; rfl)
    clear hok
    go_wp2_with fail
    go_ret2
    exact ⟨none, 0, 0, by rw [hp.out]; rfl, by rw [hp.out]; rfl, by omega, by rw [hp.out]; exact Rd.nil _ _ _ _, hB1.out⟩
  have Hok := hide hok
  have hro := RentsOk.of hok
  have hm8 : m ≤ 8 := by rw [Hm.out]; exact hro.nl
  have hr8 : r ≤ 8 := by rw [Her.out]; exact hro.rl
  have Hro := hide hro
  clear hok hro
  go_wp2_with fail
  refine (ropen_any A2 r c2 rs ns.length w1 Hro.out.nl (HR.out.bel hB1.out) hr8 Hro.out.rt).mono ?_
  rintro e w2 ⟨vS, rfl, oS, hb2⟩
  obtain ⟨AS, cS, rfl, rS⟩ := oS.rdn r (by rw [List.length_map, List.length_map]; exact Her.out.symm)
  have RS2 := hide rS
  have hB2 := hide (hB1.out.trans (hb2.mono hB1.out.size))
  clear oS hb2 rS
  go_wp2_with fail
  go_loopw [7, 8] (fun v i wr => ∃ (k : Nat) (A : Option Addr) (c : Nat), k ≤ r ∧ v = .slice A k c ∧ i = .int .i64 k ∧ Hid (Own wr w2.heap.size 3 1 icell (.slice A k c) ((rs.take k).map Rr.mi)) ∧ Below w2.heap.size w2 wr) (fun _ i _ => r - (intOf i).toNat)
  case atStart => exact ⟨0, none, 0, by omega, rfl, rfl, hide (Own.nil _ _ _ _ _), Below.refl _ _⟩
  case round =>
    obtain ⟨k, A, c, hk, rfl, rfl, HO, hb⟩ := hrel
    by_cases hlt : k < r
    · obtain ⟨b7, off, q, hA, hql, hqx, c0, _, _⟩ := (HR.out.bel (hB2.out.trans (hb.mono hB2.out.size))).rd.rr (i := k) (by rw [← Her.out]; exact hlt)
      have ik : (k : Int) < (r : Int) := by omega
      have hlen : ((rs.take k).map Rr.mi).length + 1 ≤ 1000000 := by rw [List.length_map, List.length_take]; omega
      have hsz := hb.size
      have HB := hide hb; have Hqx := hide hqx
      rw [hA]
      clear hA hqx hb
      go_wp2_with (at_builtin; refine wpList_app1 (v := .slice A k c) (xs := (rs.take k).map Rr.mi) (base := w2.heap.size) (k := 1) (bytes := 8) (E := 3) el_int rfl (.tmp 24) (.tmp 30) rfl rfl rfl HO.out q.mi rfl hlen hsz ?_; intro v' w10 o10 k10; obtain ⟨A', c', rfl, _⟩ := o10.rdn (k + 1) (by rw [List.length_append, List.length_map, List.length_take]; have := Her.out; simp; omega); have O10 := hide o10; have K10 := hide k10; clear o10 k10)
      exact ⟨⟨k + 1, A', c', by omega, rfl, by go_num, hide (by rw [take_snoc Hqx.out, List.map_append]; exact O10.out), below_keptB HB.out K10.out (Nat.le_refl _) HB.out.size⟩, by simp [intOf]; omega⟩
    · obtain rfl : r = k := by omega
      have hO := HO.out
      rw [List.take_of_length_le (by rw [← Her.out]; exact Nat.le_refl _)] at hO
      obtain ⟨A', c', ee, rC⟩ := hO.rdn r (by rw [List.length_map]; exact Her.out.symm)
      injection ee with ee1 _ ee2
      subst ee1 ee2
      have RC3 := hide rC
      have RS3 := hide (RS2.out.bel hb)
      have hB3 := hide (hB2.out.trans (hb.mono hB2.out.size))
      obtain ⟨w3, rfl⟩ : ∃ w3, w3 = wr := ⟨wr, rfl⟩
      obtain ⟨mb, sb⟩ := sim_ms Hro.out.rl Hro.out.nl Hro.out.rt
      have Mb := hide mb; have Sb := hide sb
      obtain ⟨P, hP2⟩ : ∃ P, P = 2 ^ m := ⟨_, rfl⟩
      have hpw := two_pow8 hm8
      rw [← hP2] at hpw
      have hp64 : wrap64 (2 ^ m) = (P : Int) := by
        have e : ((2 : Int) ^ m) = (P : Int) := by rw [hP2]; simp
        rw [e]; unfold wrap64; omega
      have hbest : ∀ S, bestTo ns (hsTo rs rs.length) (ssTo rs rs.length) rs.length S = bestTo ns (rs.map Rr.mi) (rs.map fun q => bitsF q.fs) r S := fun S => by rw [bestTo_congr (sim_get Hro.out.rl).1 (sim_get Hro.out.rl).2 S, ← Her.out]
      have hLF : Hid (lackF ns rs = match bestTo ns (rs.map Rr.mi) (rs.map fun q => bitsF q.fs) r P with | none => ([], 6) | some l => (l, 0)) := hide (by unfold lackF; rw [if_pos Hok.out, hbest, hP2, Hm.out]; rfl)
      have HP2 := hide hP2
      clear hP2 hO HO hb rC mb sb hbest
      go_wp2_with fail
      go_loopw [9, 10] (fun v iv wr => ∃ (S : Nat) (pv : Value), pv = v ∧ S ≤ P ∧ iv = .int .i64 S ∧ Hid (BestAt wr pv (bestTo ns (rs.map Rr.mi) (rs.map fun q => bitsF q.fs) r S)) ∧ Below w3.heap.size w3 wr) (fun _ iv _ => P - (intOf iv).toNat)
      case atStart => exact ⟨0, _, rfl, by omega, rfl, hide (.inl ⟨rfl, rfl⟩), Below.refl _ _⟩
      case round =>
        obtain ⟨S, pv, rfl, hSP, rfl, HBest, hb⟩ := hrel
        have HB := hide hb
        have HBw := hide (hB3.out.trans (hb.mono hB3.out.size))
        by_cases hlt2 : S < P
        · have hS : S < 256 := by omega
          have iS : (S : Int) < (P : Int) := by omega
          clear hb
          go_wp2_with fail
          refine (wanted_any A1 m c1 ns S wr Hm.out hm8 Hro.out.n (HN.out.bel HBw.out) hS).mono ?_
          rintro e w4 ⟨rfl, hb4⟩
          have HB4 := hide (HBw.out.trans (hb4.mono HBw.out.size))
          have H34 := hide (HB.out.trans (hb4.mono HB.out.size))
          have Best4 := hide (HBest.out.bel hb4)
          clear hb4
          go_wp2_with fail
          refine (had_any A AS r c cS (rs.map Rr.mi) (rs.map fun q => bitsF q.fs) S (-1) w4 hr8 (by rw [List.length_map]; exact Her.out) (by rw [List.length_map]; exact Her.out) Mb.out Sb.out (RC3.out.bel H34.out) (RS3.out.bel H34.out) hS).mono ?_
          rintro e w5 ⟨rfl, hb5⟩
          have HB5 := hide (HB4.out.trans (hb5.mono HB4.out.size))
          have H35 := hide (H34.out.trans (hb5.mono H34.out.size))
          have Best5 := hide (Best4.out.bel hb5)
          clear hb5
          by_cases hle : needS ns S ≤ thereS (rs.map Rr.mi) (rs.map fun q => bitsF q.fs) r S (-1)
          · have Hn : Hid (bestTo ns (rs.map Rr.mi) (rs.map fun q => bitsF q.fs) r (S + 1) = bestTo ns (rs.map Rr.mi) (rs.map fun q => bitsF q.fs) r S) := hide (by rw [bestTo, if_pos hle])
            go_wp2_with fail
            exact ⟨⟨S + 1, pv, rfl, by omega, by go_num, by rw [Hn.out]; exact Best5, H35.out⟩, by simp [intOf]; omega⟩
          · have Hn : Hid (bestTo ns (rs.map Rr.mi) (rs.map fun q => bitsF q.fs) r (S + 1) = match bestTo ns (rs.map Rr.mi) (rs.map fun q => bitsF q.fs) r S with | none => some (setL S ns.length) | some x => if lenC (setL S ns.length) x < 0 then some (setL S ns.length) else some x) := hide (by rw [bestTo, if_neg hle]; rfl)
            have Hne := hide (setL_ne (ns := ns) (hs := rs.map Rr.mi) (ss := rs.map fun q => bitsF q.fs) Mb.out hr8 hle)
            have H8 := hide (setL8 (S := S) hm8 (by rw [← HP2.out]; exact hlt2))
            go_wp2_with fail
            clear hle
            refine (rlist_any S w5 hS).mono ?_
            rintro e w6 ⟨vl, rfl, ol, hb6⟩
            rw [H8.out] at ol
            obtain ⟨l, hl⟩ : ∃ l, l = setL S m := ⟨_, rfl⟩
            rw [← hl] at ol
            have hl8 : l.length ≤ 8 := by rw [hl]; have := setL_len S m; omega
            obtain ⟨n, hn⟩ : ∃ n, n = l.length := ⟨_, rfl⟩
            rw [← hn] at hl8
            obtain ⟨Al, cl, rfl, rl⟩ := ol.rdn n hn.symm
            have hpos : 0 < l.length := by
              have h1 := Hne.out
              rw [← Hm.out, ← hl] at h1
              exact List.length_pos_iff.2 h1
            obtain ⟨ba, oa, hAl, _, _⟩ := rl hpos
            subst hAl
            have Hln := hide hn
            rw [← Hm.out, ← hl] at Hn
            have Hrl := hide rl
            have H36 := hide (H35.out.trans (hb6.mono H35.out.size))
            have Best6 := hide (Best5.out.bel hb6)
            clear hl hn rl hb6 ol
            rcases Best6.out with ⟨hbn, rfl⟩ | ⟨a, nx, cx, x, hbn, rfl, hxl, hx8, hrx⟩
            · have h1 := eql_ints_none 0 0 w6
              have G : Hid (BestAt w6 (.slice (some ⟨ba, oa, none⟩) n cl) (bestTo ns (rs.map Rr.mi) (rs.map fun q => bitsF q.fs) r (S + 1))) := by
                rw [Hn.out, hbn]
                exact hide (.inr ⟨_, n, cl, l, rfl, rfl, Hln.out, hl8, Hrl.out⟩)
              clear hbn
              go_wp2_with fail
              exact ⟨⟨S + 1, _, rfl, by omega, by go_num, G, H36.out⟩, by simp [intOf]; omega⟩
            · have h1 := eql_ints_some a nx cx w6
              rw [hbn] at Hn
              have Hxl := hide hxl; have Hrx := hide hrx
              have Gl : Hid (lenC l x < 0 → BestAt w6 (.slice (some ⟨ba, oa, none⟩) n cl) (bestTo ns (rs.map Rr.mi) (rs.map fun q => bitsF q.fs) r (S + 1))) := hide fun h => by
                rw [Hn.out]
                show BestAt w6 _ (if lenC l x < 0 then some l else some x)
                rw [if_pos h]
                exact .inr ⟨_, n, cl, l, rfl, rfl, Hln.out, hl8, Hrl.out⟩
              have Gx : Hid (0 ≤ lenC l x → BestAt w6 (.slice (some a) nx cx) (bestTo ns (rs.map Rr.mi) (rs.map fun q => bitsF q.fs) r (S + 1))) := hide fun h => by
                rw [Hn.out]
                show BestAt w6 _ (if lenC l x < 0 then some l else some x)
                rw [if_neg (by omega)]
                exact .inr ⟨_, nx, cx, x, rfl, rfl, Hxl.out, hx8, Hrx.out⟩
              clear hbn hxl hrx
              by_cases hln : n < nx
              · have i1 : (n : Int) < (nx : Int) := by omega
                have G := hide (Gl.out (lenC_iff.2 (.inl (by have := Hln.out; have := Hxl.out; omega))))
                go_wp2_with fail
                exact ⟨⟨S + 1, _, rfl, by omega, by go_num, G, H36.out⟩, by simp [intOf]; omega⟩
              have i1 : ¬ (n : Int) < (nx : Int) := by omega
              by_cases hle2 : n = nx
              · subst hle2
                have i2 : ((n : Int) == (n : Int)) = true := by simp
                go_wp2_with fail
                refine (earlier6_any (some ⟨ba, oa, none⟩) (some a) n cl n cx l x w6 Hrl.out Hrx.out Hln.out Hxl.out rfl (by omega)).mono ?_
                rintro e w7 ⟨rfl, hb7⟩
                have Hb7 := hide hb7
                have hE : lenC l x < 0 ↔ earlFrom l x n 0 = true := by
                  rw [lenC_iff, ← Hln.out, ← Hxl.out]
                  constructor
                  · rintro (h | ⟨_, h⟩)
                    · omega
                    · exact h
                  · exact fun h => .inr ⟨rfl, h⟩
                have HE := hide hE
                clear hE hb7
                cases he : earlFrom l x n 0
                · have G := hide ((Gx.out (Int.not_lt.1 (fun h => by rw [HE.out.1 h] at he; cases he))).bel Hb7.out)
                  clear he
                  go_wp2_with fail
                  exact ⟨⟨S + 1, _, rfl, by omega, by go_num, G, H36.out.trans (Hb7.out.mono H36.out.size)⟩, by simp [intOf]; omega⟩
                · have G := hide ((Gl.out (HE.out.2 he)).bel Hb7.out)
                  clear he
                  go_wp2_with fail
                  exact ⟨⟨S + 1, _, rfl, by omega, by go_num, G, H36.out.trans (Hb7.out.mono H36.out.size)⟩, by simp [intOf]; omega⟩
              · have i2 : ((n : Int) == (nx : Int)) = false := by simp; omega
                have G := hide (Gx.out (Int.not_lt.1 (fun h => by
                  rcases lenC_iff.1 h with h | ⟨h, _⟩
                  · have := Hln.out; have := Hxl.out; omega
                  · have := Hln.out; have := Hxl.out; omega)))
                go_wp2_with fail
                exact ⟨⟨S + 1, _, rfl, by omega, by go_num, G, H36.out⟩, by simp [intOf]; omega⟩
        · obtain rfl : P = S := by omega
          rcases HBest.out with ⟨hn, rfl⟩ | ⟨a, n, c, l, hn, rfl, hl, hl8, hr⟩
          · have hp : Hid (lackF ns rs = ([], 6)) := hide (by rw [hLF.out, hn])
            have h1 := eql_ints_none 0 0 wr
            clear hn
            go_wp2_with fail
            go_ret2
            exact ⟨none, 0, 0, by rw [hp.out]; rfl, by rw [hp.out]; rfl, by omega, by rw [hp.out]; exact Rd.nil _ _ _ _, HBw.out⟩
          · have hp : Hid (lackF ns rs = (l, 0)) := hide (by rw [hLF.out, hn])
            have h1 := eql_ints_some a n c wr
            have Hl := hide hl; have Hr := hide hr
            clear hn hl hr
            go_wp2_with fail
            go_ret2
            exact ⟨some a, n, c, by rw [hp.out]; rfl, by rw [hp.out]; exact Hl.out, hl8, by rw [hp.out]; exact Hr.out, HBw.out⟩
end Go.Proofs.Ytmbhnjpaieimbaa
