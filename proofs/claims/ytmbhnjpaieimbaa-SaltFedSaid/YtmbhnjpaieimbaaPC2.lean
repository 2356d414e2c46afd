/- Salt: the reference's small functions of needs and rents, by contracts. -/
import Derived.Test.YtmbhnjpaieimbaaPBD
import Derived.Test.YtmbhnjpaieimbaaS1
set_option linter.unusedVariables false
set_option linter.unusedSimpArgs false
namespace Go.Proofs.Ytmbhnjpaieimbaa
open Go.RowKit Go.Shelf
set_option maxHeartbeats 4000000 in
set_option maxRecDepth 100000 in
theorem wanted_any (A : Option Addr) (m c : Nat) (ns : List Int) (S : Nat) (w : World) (hm : m = ns.length) (hm8 : m ≤ 8) (hn : ∀ x ∈ ns, 0 ≤ x ∧ x ≤ 23040) (hN : Rd w w.heap.size icell A ns) (hS : S < 256) :
    Calls Try.prog 79 #[.slice A m c, .int .i64 (S : Nat)] w fun e w' => e = .returned (.int .i64 (needS ns S)) ∧ Below w.heap.size w w' := by
  have H := hide hN; have Hn := hide hm; have Hb := hide hn
  clear hN hm hn
  go_enter Try.func79, Try.ntmps79
  go_wp2_with fail
  go_loopw [5, 6] (fun v i wr => ∃ k : Nat, k ≤ m ∧ v = .int .i64 (sumTo (needF1 ns S) k) ∧ i = .int .i64 k ∧ Below w.heap.size w wr) (fun _ i _ => m - (intOf i).toNat)
  case atStart => exact ⟨0, by omega, rfl, rfl, Below.refl _ _⟩
  case round =>
    obtain ⟨k, hk, rfl, rfl, hb⟩ := hrel
    by_cases hlt : k < m
    · obtain ⟨bn, off, x, hA, hBB, hxk, c0⟩ := (H.out.bel hb).int (i := k) (by have := Hn.out; omega)
      have hbd := sumTo_bd (M := 23040) (n := k) (fun j _ => needF1_bd Hb.out S j)
      have hx := Hb.out x (List.mem_of_getElem? hxk)
      have ht := shr_test S k (by omega)
      have hgd : ns.getD k 0 = x := by rw [List.getD_eq_getElem?_getD, hxk]; rfl
      have ik : (k : Int) < (m : Int) := by omega
      obtain ⟨z, hz⟩ : ∃ z, z = sumTo (needF1 ns S) k := ⟨_, rfl⟩
      have hs : sumTo (needF1 ns S) (k + 1) = z + needF1 ns S k := by rw [hz]; rfl
      rw [← hz] at hbd ⊢
      have Hs := hide hs
      clear hz hxk hs
      have hzb : 0 ≤ z ∧ z ≤ 184320 := by omega
      clear hbd
      rw [hA]
      clear hA
      cases hts : S.testBit k
      all_goals
        rw [hts] at ht
        have Hts := hide hts
        have Hgd := hide hgd
        clear hts hgd
        go_wp2_with fail
        refine ⟨⟨k + 1, by omega, by rw [Hs.out]; unfold needF1; rw [Hts.out]; first | (rw [if_pos rfl, Hgd.out]) | (rw [if_neg (by decide), Int.add_zero]), by go_num, hb⟩, by simp [intOf]; omega⟩
    · obtain rfl : m = k := by omega
      go_wp2_with fail
      go_ret
      exact ⟨ret_int (by rw [needS, ← Hn.out]), hb⟩
set_option maxHeartbeats 4000000 in
set_option maxRecDepth 100000 in
theorem had_any (A1 A2 : Option Addr) (r c1 c2 : Nat) (hs : List Int) (ss : List Nat) (S : Nat) (b : Int) (w : World) (hr8 : r ≤ 8) (hr : r = hs.length) (hr2 : r = ss.length) (h : ∀ x ∈ hs, 0 ≤ x ∧ x ≤ 200000) (h256 : ∀ x ∈ ss, x < 256) (hH : Rd w w.heap.size icell A1 hs) (hSS : Rd w w.heap.size icell A2 (ss.map Int.ofNat)) (hS : S < 256) :
    Calls Try.prog 80 #[.slice A1 r c1, .slice A2 r c2, .int .i64 (S : Nat), .int .i64 b] w fun e w' => e = .returned (.int .i64 (thereS hs ss r S b)) ∧ Below w.heap.size w w' := by
  have H1 := hide hH; have H2 := hide hSS; have Hb := hide h; have H256 := hide h256; have Hr := hide hr; have Hr2 := hide hr2
  clear hH hSS h h256 hr hr2
  go_enter Try.func80, Try.ntmps80
  go_wp2_with fail
  go_loopw [9, 10] (fun v i wr => ∃ k : Nat, k ≤ r ∧ v = .int .i64 (sumTo (thereF hs ss S b) k) ∧ i = .int .i64 k ∧ Below w.heap.size w wr) (fun _ i _ => r - (intOf i).toNat)
  case atStart => exact ⟨0, by omega, rfl, rfl, Below.refl _ _⟩
  case round =>
    obtain ⟨k, hk, rfl, rfl, hb⟩ := hrel
    by_cases hlt : k < r
    · obtain ⟨b1, o1, x, hA1, hl1, hxk, c1'⟩ := (H1.out.bel hb).int (i := k) (by have := Hr.out; omega)
      obtain ⟨b2, o2, y, hA2, hl2, hyk, c2'⟩ := (H2.out.bel hb).int (i := k) (by have := Hr2.out; simp; omega)
      obtain ⟨s, hsk, rfl⟩ : ∃ s, ss[k]? = some s ∧ (s : Int) = y := by
        rw [List.getElem?_map] at hyk
        cases hh : ss[k]? with
        | none => rw [hh] at hyk; cases hyk
        | some s => rw [hh] at hyk; exact ⟨s, rfl, Option.some.inj hyk⟩
      have hbd := sumTo_bd (M := 200000) (n := k) (fun j _ => thereF_bd Hb.out ss S b j)
      have hx := Hb.out x (List.mem_of_getElem? hxk)
      have hs256 := H256.out s (List.mem_of_getElem? hsk)
      have hgx : hs.getD k 0 = x := by rw [List.getD_eq_getElem?_getD, hxk]; rfl
      have hgs : ss.getD k 0 = s := by rw [List.getD_eq_getElem?_getD, hsk]; rfl
      have ht := and_test s S hs256 hS
      have ik : (k : Int) < (r : Int) := by omega
      obtain ⟨z, hz⟩ : ∃ z, z = sumTo (thereF hs ss S b) k := ⟨_, rfl⟩
      have hsu : sumTo (thereF hs ss S b) (k + 1) = z + (if (k : Int) ≠ b ∧ (s &&& S != 0) = true then x else 0) := by rw [hz, ← hgs, ← hgx]; rfl
      rw [← hz] at hbd ⊢
      have Hs := hide hsu
      clear hz hsu hgx hgs hxk hyk hsk
      have hzb : 0 ≤ z ∧ z ≤ 1600000 := by omega
      clear hbd
      rw [hA1, hA2]
      clear hA1 hA2
      by_cases hkb : (k : Int) = b
      · have h1 : ((k : Int) == b) = true := by simp [hkb]
        have h2 : ((k : Int) != b) = false := by simp [hkb]
        have Hkb := hide hkb
        clear hkb ht
        go_wp2_with fail
        refine ⟨⟨k + 1, by omega, by rw [Hs.out, if_neg (fun h => h.1 Hkb.out), Int.add_zero], by go_num, hb⟩, by simp [intOf]; omega⟩
      · have h1 : ((k : Int) == b) = false := by simp [hkb]
        have h2 : ((k : Int) != b) = true := by simp [hkb]
        have Hkb := hide hkb
        clear hkb
        cases hts : (s &&& S != 0)
        · rw [hts] at ht
          have Hts := hide hts
          clear hts
          go_wp2_with fail
          refine ⟨⟨k + 1, by omega, by rw [Hs.out, Hts.out, if_neg (fun h => by cases h.2), Int.add_zero], by go_num, hb⟩, by simp [intOf]; omega⟩
        · rw [hts] at ht
          have Hts := hide hts
          clear hts
          go_wp2_with fail
          refine ⟨⟨k + 1, by omega, by rw [Hs.out, Hts.out, if_pos ⟨Hkb.out, rfl⟩], by go_num, hb⟩, by simp [intOf]; omega⟩
    · obtain rfl : r = k := by omega
      go_wp2_with fail
      go_ret
      exact ⟨rfl, hb⟩
/-! ### Great -/
def greatF (ns : List Int) (rs : List Rr) : Bool := decide (12 < ns.length) || (decide (12 < rs.length) || rs.any fun r => decide (16 < r.n))
/-- Rents as they come: nothing is known of how many fields they have. -/
structure RsAt0 (w : World) (A : Option Addr) (n : Nat) (rs : List Rr) : Prop where
  rd : Rd w w.heap.size Rr.cells A rs
  en : n = rs.length
  row : ∀ r ∈ rs, r.n = r.fs.length ∧ r.n ≤ 9223372036854775807 ∧ Rd w w.heap.size icell r.A r.fs
theorem RsAt0.bel {w w' : World} {A : Option Addr} {n : Nat} {rs : List Rr} (h : RsAt0 w A n rs) (hb : Below w.heap.size w w') : RsAt0 w' A n rs := ⟨h.rd.bel hb, h.en, fun r hr => ⟨(h.row r hr).1, (h.row r hr).2.1, (h.row r hr).2.2.bel hb⟩⟩
theorem RsAt0.small {w : World} {A : Option Addr} {n : Nat} {rs : List Rr} {ns : List Int} (h : RsAt0 w A n rs) (hg : greatF ns rs = false) : RsAt w A n rs ∧ n ≤ 12 ∧ ns.length ≤ 12 ∧ ∀ r ∈ rs, r.n ≤ 16 := by
  simp only [greatF, Bool.or_eq_false_iff, decide_eq_false_iff_not, List.any_eq_false, decide_eq_true_eq] at hg
  have h16 : ∀ r ∈ rs, r.n ≤ 16 := fun r hr => by have := hg.2.2 r hr; omega
  exact ⟨⟨h.rd, h.en, fun r hr => ⟨(h.row r hr).1, by have := h16 r hr; omega, (h.row r hr).2.2⟩⟩, by rw [h.en]; omega, by omega, h16⟩
set_option maxHeartbeats 4000000 in
set_option maxRecDepth 100000 in
theorem great6_any (A1 A2 : Option Addr) (m c1 r c2 : Nat) (ns : List Int) (rs : List Rr) (w : World) (hm : m = ns.length) (hm2 : m ≤ 9223372036854775807) (hR : RsAt0 w A2 r rs) (hr2 : r ≤ 9223372036854775807) :
    Calls Try.prog 27 #[.slice A1 m c1, .slice A2 r c2] w fun e w' => e = .returned (.bool (greatF ns rs)) ∧ Below w.heap.size w w' := by
  have Hm := hide hm; have Her := hide hR.en; have HR := hide hR
  clear hm hR
  go_enter Try.func27, Try.ntmps27
  by_cases h1 : 12 < m
  · have Hg : Hid (greatF ns rs = true) := hide (by unfold greatF; rw [decide_eq_true (by have := Hm.out; omega)]; rfl)
    have i1 : (12 : Int) < (m : Int) := by omega
    go_wp2_with fail
    go_ret
    exact ⟨ret_bool Hg.out.symm, Below.refl _ _⟩
  have i1 : ¬ (12 : Int) < (m : Int) := by omega
  by_cases h2 : 12 < r
  · have Hg : Hid (greatF ns rs = true) := hide (by unfold greatF; rw [decide_eq_true (p := 12 < rs.length) (by have := Her.out; omega)]; simp)
    have i2 : (12 : Int) < (r : Int) := by omega
    go_wp2_with fail
    go_ret
    exact ⟨ret_bool Hg.out.symm, Below.refl _ _⟩
  have i2 : ¬ (12 : Int) < (r : Int) := by omega
  have Hg : Hid (greatF ns rs = rs.any fun r => decide (16 < r.n)) := hide (by unfold greatF; rw [decide_eq_false (by have := Hm.out; omega), decide_eq_false (p := 12 < rs.length) (by have := Her.out; omega)]; rfl)
  go_wp2_with fail
  go_loopw [5] (fun i wr => ∃ k : Nat, k ≤ r ∧ i = .int .i64 k ∧ Below w.heap.size w wr ∧ Hid (∀ y ∈ rs.take k, (fun r : Rr => decide (16 < r.n)) y = false)) (fun i _ => r - (intOf i).toNat)
  case atStart => exact ⟨0, by omega, rfl, Below.refl _ _, hide pre_nil⟩
  case round =>
    obtain ⟨k, hk, rfl, hb, hpre⟩ := hrel
    by_cases hlt : k < r
    · obtain ⟨b7, off, q, hA, hql, hqx, c0, c1', c2'⟩ := (HR.out.bel hb).rd.rr (i := k) (by rw [← Her.out]; exact hlt)
      have hqn := (HR.out.row q (List.mem_of_getElem? hqx)).2.1
      have ik : (k : Int) < (r : Int) := by omega
      obtain ⟨n, hn⟩ : ∃ n, n = q.n := ⟨_, rfl⟩
      rw [← hn] at hqn c2'
      have Hn := hide hn; have Hqx := hide hqx
      rw [hA]
      clear hn hA hqx
      by_cases h16 : 16 < n
      · have i16 : (16 : Int) < (n : Int) := by omega
        go_wp2_with fail
        go_ret
        exact ⟨ret_bool (by rw [Hg.out, any_hit Hqx.out (p := fun r : Rr => decide (16 < r.n)) (by rw [← Hn.out]; exact decide_eq_true h16)]), hb⟩
      · have i16 : ¬ (16 : Int) < (n : Int) := by omega
        go_wp2_with fail
        exact ⟨⟨k + 1, by omega, by go_num, hb, hide (pre_snoc Hqx.out (p := fun r : Rr => decide (16 < r.n)) (by rw [← Hn.out]; exact decide_eq_false h16) hpre.out)⟩, by simp [intOf]; omega⟩
    · have hkr : rs.length ≤ k := by have := Her.out; omega
      go_wp2_with fail
      go_ret
      exact ⟨ret_bool (by rw [Hg.out, any_miss hkr hpre.out]), hb⟩
/-! ### The sets of rents -/
set_option maxHeartbeats 4000000 in
set_option maxRecDepth 100000 in
theorem ropen_any (A2 : Option Addr) (r c2 : Nat) (rs : List Rr) (m : Nat) (w : World) (hm8 : m ≤ 8) (hR : RsAt w A2 r rs) (hr8 : r ≤ 8) (hok : rentTo m rs rs.length = true) :
    Calls Try.prog 72 #[.slice A2 r c2] w fun e w' => ∃ v, e = .returned v ∧ Own w' w.heap.size 3 1 icell v ((rs.map fun q => bitsF q.fs).map Int.ofNat) ∧ Below w.heap.size w w' := by
  have Her := hide hR.en; have HR := hide hR; have Hok := hide hok
  clear hR hok
  go_enter Try.func72, Try.ntmps72
  go_wp2_with fail
  go_loopw [3, 4] (fun v i wr => ∃ (k : Nat) (pv : Value), pv = v ∧ k ≤ r ∧ i = .int .i64 k ∧ Hid (Own wr w.heap.size 3 1 icell pv (((rs.take k).map fun q => bitsF q.fs).map Int.ofNat)) ∧ Below w.heap.size w wr) (fun _ i _ => r - (intOf i).toNat)
  case atStart => exact ⟨0, _, rfl, by omega, rfl, hide (Own.nil _ _ _ _ _), Below.refl _ _⟩
  case round =>
    obtain ⟨k, pv, rfl, hk, rfl, HO, hb⟩ := hrel
    by_cases hlt : k < r
    · obtain ⟨b7, off, q, hA, hql, hqx, c0, c1', c2'⟩ := (HR.out.bel hb).rd.rr (i := k) (by rw [← Her.out]; exact hlt)
      have Hrow := hide (HR.out.row q (List.mem_of_getElem? hqx))
      have Hfld : Hid (fldOk m q.fs = true) := hide (by
        have h := rentTo_le (j := k + 1) Hok.out (by have := Her.out; omega)
        have hfs : fsAt rs k = q.fs := by unfold fsAt; rw [hqx]; rfl
        rw [rentTo, hfs, Bool.and_eq_true, Bool.and_eq_true, Bool.and_eq_true] at h
        exact h.2.2.2)
      have ik : (k : Int) < (r : Int) := by omega
      have hqn := Hrow.out.2.1
      obtain ⟨n, hn⟩ : ∃ n, n = q.n := ⟨_, rfl⟩
      rw [← hn] at hqn c2'
      have Hn := hide (show n = q.fs.length by rw [hn]; exact Hrow.out.1)
      have Hqx := hide hqx
      have Hc2 := hide c2'
      rw [hA]
      clear hn hA hqx c0 c1' c2' hlt
      obtain ⟨wo, rfl⟩ : ∃ wo, wo = wr := ⟨wr, rfl⟩
      go_wp2_with fail
      go_loopw [5, 6] (fun v i wr => ∃ j : Nat, j ≤ n ∧ v = .int .i64 ((bitsTo q.fs j : Nat) : Int) ∧ i = .int .i64 j ∧ Below wo.heap.size wo wr) (fun _ i _ => n - (intOf i).toNat)
      case atStart => exact ⟨0, by omega, rfl, rfl, Below.refl _ _⟩
      case round =>
        obtain ⟨j, hj, rfl, rfl, hb2⟩ := hrel
        have y2 := (hb2.cell (p := ⟨b7, off + k * 3 + 2, none⟩) hql).trans Hc2.out
        have hbits := bitsTo_lt hm8 (fldTo_le (j := j) Hfld.out (by have := Hn.out; omega))
        by_cases hjn : j < n
        · obtain ⟨bf, of, f, hAf, hlf, hxf, cf⟩ := ((Hrow.out.2.2.bel hb).bel hb2).int (i := j) (by rw [← Hn.out]; exact hjn)
          have hfa : fAt q.fs j = f := by unfold fAt; rw [List.getD_eq_getElem?_getD, hxf]; rfl
          have hfb : 0 ≤ f ∧ f < 8 := by
            have h := fldTo_le (j := j + 1) Hfld.out (by have := Hn.out; omega)
            rw [fldTo, Bool.and_eq_true, Bool.and_eq_true] at h
            have h2 := h.2.1
            rw [hfa] at h2
            simp [inB] at h2; omega
          obtain ⟨fn, rfl⟩ : ∃ fn : Nat, f = fn := ⟨f.toNat, by omega⟩
          have hos := or_step hbits (show fn < 8 by omega)
          have Hnext : Hid (bitsTo q.fs (j + 1) = bitsTo q.fs j ||| 2 ^ fn) := hide (by rw [bitsTo, hfa]; rfl)
          obtain ⟨z, hz⟩ : ∃ z, z = bitsTo q.fs j := ⟨_, rfl⟩
          rw [← hz] at hbits hos Hnext ⊢
          have ij : (j : Int) < (n : Int) := by omega
          have f0 : ¬ (fn : Int) < 0 := by omega
          rw [hAf] at y2
          clear hfa hz hAf hxf
          go_wp2_with fail
          exact ⟨⟨j + 1, by omega, by first | (rw [Hnext.out]; done) | rw [Hnext.out, hos], by go_num, hb2⟩, by simp [intOf]; omega⟩
        · obtain rfl : n = j := by omega
          have hlen : (((rs.take k).map fun q => bitsF q.fs).map Int.ofNat).length + 1 ≤ 1000000 := by rw [List.length_map, List.length_map, List.length_take]; omega
          have HB2 := hide hb2
          go_wp2_with (at_builtin; refine wpList_app1 (v := pv) (xs := ((rs.take k).map fun q => bitsF q.fs).map Int.ofNat) (base := w.heap.size) (k := 1) (bytes := 8) (E := 3) el_int rfl (.tmp 34) (.tmp 36) rfl rfl rfl (HO.out.bel HB2.out) ((bitsTo q.fs n : Nat) : Int) rfl hlen (Nat.le_trans hb.size HB2.out.size) ?_; intro vq w10 o10 k10; have O10 := hide o10; have K10 := hide k10; clear o10 k10)
          refine ⟨⟨k + 1, _, rfl, by omega, by go_num, hide ?_, ((hb.trans (HB2.out.mono hb.size)).trans (K10.out.below (fun b hb => hb) (Nat.le_trans hb.size HB2.out.size)))⟩, by simp [intOf]; omega⟩
          rw [take_snoc Hqx.out, List.map_append, List.map_append]
          have e : bitsF q.fs = bitsTo q.fs n := by unfold bitsF; rw [← Hn.out]
          show Own _ _ _ _ _ _ (_ ++ [((bitsF q.fs : Nat) : Int)])
          rw [e]
          exact O10.out
    · have hkr : rs.length ≤ k := by have := Her.out; omega
      go_wp2_with fail
      go_ret
      have h := HO.out
      rw [List.take_of_length_le hkr] at h
      exact ⟨_, rfl, h, hb⟩
end Go.Proofs.Ytmbhnjpaieimbaa
