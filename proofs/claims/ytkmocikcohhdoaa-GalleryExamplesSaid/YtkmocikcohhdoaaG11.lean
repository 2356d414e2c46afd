/- Gallery: Clean, by contracts. -/
import Derived.Test.YtkmocikcohhdoaaG10
import Derived.Test.YtkmocikcohhdoaaG4
set_option linter.unusedVariables false
set_option linter.unusedSimpArgs false
namespace Go.Proofs.Ytkmocikcohhdoaa
open Go.RowKit Go.Shelf

theorem cmpL_earl : ∀ (a b : List Int), a.length = b.length → decide (cmpL a b < 0) = earl a b
  | [], [], _ => by simp [cmpL, earl]
  | x :: s, y :: t, h => by
    simp only [cmpL, earl, cmpI]
    by_cases h1 : x < y
    · have h2 : ¬ x = y := by omega
      simp [h1, h2]
    · by_cases h2 : y < x
      · have h3 : ¬ x = y := by omega
        simp [h1, h2, h3]
      · have h3 : x = y := by omega
        subst h3
        simpa using cmpL_earl s t (by simpa using h)
theorem mem_all (s n : Nat) (hs : s < 2 ^ n) (m : Nat) (h : n ≤ m) : mem s m = mem s n := by
  induction m with
  | zero => obtain rfl : n = 0 := by omega
            rfl
  | succ m ih =>
    by_cases hm : n = m + 1
    · rw [hm]
    · have hsm : s < 2 ^ m := Nat.lt_of_lt_of_le hs (Nat.pow_le_pow_right (by omega) (by omega))
      rw [mem_succ, ih (by omega), Nat.testBit_lt_two_pow hsm]
      simp
/-- The number that the fewest so far is told as. -/
def fewOf (g : List Rc) : Option (List Int) → Int
  | none => g.length + 1
  | some b => b.length
theorem endF_snoc (l : List Rc) (r : Rc) (n : Int) : endF (l ++ [r]) n = leastF r (endF l n) := by simp [endF]
theorem endF_bd (l : List Rc) (n : Int) (h : ∀ r ∈ l, r.small) (h0 : 0 ≤ n) (h1 : n ≤ 26000000) : 0 ≤ endF l n ∧ endF l n ≤ 26000000 := by
  induction l generalizing n with
  | nil => exact ⟨h0, h1⟩
  | cons r l ih =>
    have := leastF_bd r n (h r (by simp)) h0
    exact ih (leastF r n) (fun x hx => h x (by simp [hx])) this.1 this.2

set_option maxRecDepth 100000 in
set_option maxHeartbeats 4000000 in
theorem clean_any (A : Option Addr) (g : List Rc) (n c : Nat) (lo hi want : Int) (w : World) (hn : n = g.length) (hm : n ≤ 20) (hx : Rd w w.heap.size Rc.cells A g) :
    Calls Try.prog 15 #[.slice A n c, .agg #[.int .i64 lo, .int .i64 hi], .int .i64 want] w (CleanPost g ⟨lo, hi⟩ want w) := by
  subst hn
  obtain ⟨w1, hw1⟩ : ∃ w1, w1 = w.alloc (.cells #[.int .i64 lo, .int .i64 hi] 24) := ⟨_, rfl⟩
  have b1 : Below w.heap.size w w1 := by rw [hw1]; exact below_new w _
  have s1 : w1.heap.size = w.heap.size + 1 := by rw [hw1]; simp
  have q0 : w1.cell? ⟨w.heap.size, 0, none⟩ = some (.int .i64 lo) := by rw [hw1]; exact cell_new _ _ _ 0 _ rfl
  have q1 : w1.cell? ⟨w.heap.size, 1, none⟩ = some (.int .i64 hi) := by rw [hw1]; exact cell_new _ _ _ 1 _ rfl
  have HE := hide (enter_any A none g lo hi [] g.length c 0 0 w1 rfl (by omega) ((hx.below b1).more b1.size) rfl (by omega) (Rd.nil _ _ _ _))
  have Hx := hide (fun W (hb : Below w.heap.size w W) => (hx.below hb).more hb.size)
  clear hx
  have Hw1 := hide hw1.symm; clear hw1
  have okbad : anyBad 1000000 [⟨lo, hi⟩] = !(Sp.ok 0 1000000 ⟨lo, hi⟩) := by
    rw [Bool.eq_iff_iff]; simp only [anyBad, List.any_cons, List.any_nil, Bool.or_false, Sp.bad, Sp.ok, Bool.or_eq_true, decide_eq_true_eq, Bool.not_eq_true', Bool.and_eq_false_iff, decide_eq_false_iff_not]; omega
  have hee : gEnter g ⟨lo, hi⟩ [] = if gOk g then (if Sp.ok 0 1000000 ⟨lo, hi⟩ then 0 else 21) else 20 := by
    simp only [gEnter, okbad]
    cases gOk g <;> cases Sp.ok 0 1000000 ⟨lo, hi⟩ <;> simp [gasBad]
  have Hq0 := hide q0; have Hq1 := hide q1; clear okbad
  cases he : (gOk g && Sp.ok 0 1000000 ⟨lo, hi⟩)
  · have h1 : gEnter g ⟨lo, hi⟩ [] ≠ 0 := by
      rw [hee]
      cases hg : gOk g <;> cases hs : Sp.ok 0 1000000 ⟨lo, hi⟩ <;> simp [hg, hs] at he ⊢
    have h2 : cleanErr g ⟨lo, hi⟩ want = gEnter g ⟨lo, hi⟩ [] := by
      rw [hee]
      cases hg : gOk g <;> cases hs : Sp.ok 0 1000000 ⟨lo, hi⟩ <;> simp [hg, hs, cleanErr] at he ⊢
    generalize gEnter g ⟨lo, hi⟩ [] = ee at h1 h2 HE
    have h3 : (ee == 0) = false := by simpa using h1
    have h4 : (ee != 0) = true := by simpa using h1
    have H1 := hide h1; have H2 := hide h2; clear h1 h2 he hee
    go_enter Try.func15, Try.ntmps15
    go_wp2_with fail
    rw [Hw1.out]
    go_wp2_with (go_at_call 51; refine HE.out.mono ?_; rintro e w2 ⟨rfl, b2⟩)
    go_ret2
    refine ⟨none, 0, ?_, ?_, b1.trans (b2.mono b1.size)⟩
    · simp [cleanL, H2.out, H1.out]
    · simp [cleanL, H2.out, H1.out, Rd.nil]
  · obtain ⟨hg, hs⟩ : gOk g = true ∧ Sp.ok 0 1000000 ⟨lo, hi⟩ = true := by simpa using he
    rw [hg, hs] at hee
    simp only [if_true] at hee
    rw [hee] at HE
    have Hg := hide hg; have Hs := hide hs; clear hg hs hee he q1 q0
    cases ht : inB 0 13000000 want
    · have Ht := hide ht; clear ht
      go_enter Try.func15, Try.ntmps15
      go_wp2_with fail
      have q0 := Hq0.out; have q1 := Hq1.out
      rw [Hw1.out]
      go_wp2_with (first | (go_at_call 51; refine HE.out.mono ?_; rintro e w2 ⟨rfl, b2⟩) | (go_at_call 52; refine (from_any _ _ _ _).mono ?_; rintro e w' ⟨rfl, rfl⟩; rw [Ht.out]))
      go_ret2
      refine ⟨none, 0, ?_, ?_, b1.trans (b2.mono b1.size)⟩
      · simp [cleanL, cleanErr, Hg.out, Hs.out, Ht.out]
      · simp [cleanL, cleanErr, Hg.out, Hs.out, Ht.out, Rd.nil]
    · have Ht := hide ht; clear ht
      go_enter Try.func15, Try.ntmps15
      go_wp2_with fail
      have q0 := Hq0.out; have q1 := Hq1.out
      rw [Hw1.out]
      go_wp2_with fail
      refine HE.out.mono ?_; rintro e w2 ⟨rfl, b2⟩
      have q2 : w2.cell? ⟨w.heap.size, 0, none⟩ = some (.int .i64 lo) := (b2.cell (p := ⟨w.heap.size, 0, none⟩) (by simp; omega)).trans q0
      have bw2 : Below w.heap.size w w2 := b1.trans (b2.mono b1.size)
      have s2 : w.heap.size < w2.heap.size := by have := b2.size; omega
      have Hq2 := hide q2
      clear q0 q1 q2
      have hk12 : g.length ≤ 12 := by have := Hg.out; simp [gOk, inB] at this; omega
      obtain ⟨p, hp⟩ : ∃ p, p = 2 ^ g.length := ⟨_, rfl⟩
      have hpw := pow_wrap g.length hk12 p hp
      have hp4 : p ≤ 4096 := by rw [hp]; exact Nat.pow_le_pow_right (n := 2) (by omega) hk12
      have Hp := hide hp; clear hp
      go_wp2_with (go_at_call 52; refine (from_any _ _ _ _).mono ?_; rintro e w' ⟨rfl, rfl⟩; rw [Ht.out])
      rw [hpw]
      clear hpw
      go_loopw [9, 10, 31] (fun b f i wr => ∃ (k : Nat) (st : Option (List Int)) (A' : Option Addr) (c' : Nat), k ≤ p ∧ i = .int .i64 k ∧ b = .slice A' (st.getD []).length c' ∧ f = .int .i64 (fewOf g st) ∧ Hid (st = cleanFold g lo want k) ∧ Hid (∀ b, st = some b → b.length ≤ g.length) ∧ Hid (Rd wr wr.heap.size icell A' (st.getD [])) ∧ Below w2.heap.size w2 wr) (fun _ _ i _ => p - (intOf i).toNat)
      case atStart => exact ⟨0, none, none, 0, Nat.zero_le _, rfl, rfl, rfl, hide rfl, hide (by simp), hide (Rd.nil _ _ _ _), Below.refl _ _⟩
      case round =>
        obtain ⟨k, st, A', c', hk, rfl, rfl, rfl, hst, hlen, hrd, hb⟩ := hrel
        have hc : wr.cell? ⟨w.heap.size, 0, none⟩ = some (.int .i64 lo) := (hb.cell (p := ⟨w.heap.size, 0, none⟩) s2).trans Hq2.out
        have sr : w.heap.size < wr.heap.size := Nat.lt_of_lt_of_le s2 hb.size
        have bwr : Below w.heap.size w wr := bw2.trans (hb.mono bw2.size)
        have bds : 0 ≤ lo ∧ lo ≤ 1000000 := by have := Hs.out; simp [Sp.ok] at this; omega
        have hgs : ∀ r ∈ cleanTo g k g.length, r.small := cleanTo_small g k (gOk_small Hg.out)
        have Hgs := hide hgs; have Hbds := hide bds; clear hgs bds
        by_cases hlt : k < p
        · have Hk := hide (show k < 65536 by omega)
          have hkp : k < 2 ^ g.length := by rw [← Hp.out]; exact hlt
          have Hkp := hide hkp; clear hkp
          go_wp2_with fail
          obtain ⟨wo, rfl⟩ : ∃ wo : World, wo = wr := ⟨_, rfl⟩
          go_loopw [12, 13, 38] (fun l x i wr => ∃ (j : Nat) (y : Int), j ≤ g.length ∧ i = .int .i64 j ∧ x = .int .i64 y ∧ 0 ≤ y ∧ y ≤ 26000000 ∧ Hid (y = endF ((cleanTo g k g.length).take j) lo) ∧ Own wr wo.heap.size 3 1 icell l (mem k j) ∧ Below wo.heap.size wo wr) (fun _ _ i _ => g.length - (intOf i).toNat)
          case atStart => exact ⟨0, lo, Nat.zero_le _, rfl, rfl, Hbds.out.1, by have := Hbds.out.2; omega, hide (by simp [endF]), Own.nil _ _ _ _ _, Below.refl _ _⟩
          case round =>
            obtain ⟨j, y, hj, rfl, rfl, hy0, hy1, hy, hown, hbi⟩ := hrel
            have Hown := hide hown; clear hown
            by_cases hjlt : j < g.length
            · have hri := Hx.out wr (bwr.trans (hbi.mono bwr.size))
              obtain ⟨b, off, c0, c1, l0, l1, g0, g1, rfl, hB, hxk, d0, d1, d2, d3, d4, d5⟩ := hri.rc (i := j) hjlt
              have ht2 := bit_test k j Hk.out
              have hsm := gOk_small Hg.out _ (List.mem_of_getElem? hxk)
              obtain ⟨⟨m1, m2⟩, ⟨m3, m4⟩, ⟨m5, m6⟩⟩ := hsm
              simp only at m1 m2 m3 m4 m5 m6
              have hcl := cleanTo_get g k g.length hxk
              have sri : wr.heap.size < (wr.alloc (.cells #[.int .i64 c0, .int .i64 c1, .int .i64 l0, .int .i64 l1, .int .i64 g0, .int .i64 g1] 96)).heap.size := by simp
              cases hq : k.testBit j
              · rw [hq] at ht2
                rw [if_neg (by simp [hq])] at hcl
                have hbd := leastF_bd ⟨⟨c0, c1⟩, ⟨l0, l1⟩, ⟨g0, g1⟩⟩ y ⟨⟨m1, m2⟩, ⟨m3, m4⟩, ⟨m5, m6⟩⟩ hy0
                have Hq := hide hq; have Hcl := hide hcl; have Hbd := hide hbd
                clear hxk hri hq hcl hbd
                go_wp2_with (go_at_call 53; refine (least_any _ _ _ _ _ _ _ _ ⟨hy0, by omega⟩ ⟨m1, by omega⟩ ⟨m3, by omega⟩ ⟨m5, by omega⟩).mono ?_; rintro e w4 ⟨rfl, b4⟩)
                have b14 : Below wr.heap.size wr w4 := ((below_new wr _).trans (b4.mono (by simp)))
                refine ⟨⟨j + 1, _, by omega, by go_num, rfl, Hbd.out.1, Hbd.out.2, hide ?_, by rw [mem_succ, Hq.out]; simpa using Hown.out.below b14, hbi.trans (b14.mono hbi.size)⟩, by simp [intOf]; omega⟩
                rw [take_snoc Hcl.out, endF_snoc, ← hy.out]
              · rw [hq] at ht2
                rw [if_pos ⟨hjlt, hq⟩] at hcl
                have hbd := leastF_bd (Rc.clean ⟨⟨c0, c1⟩, ⟨l0, l1⟩, ⟨g0, g1⟩⟩) y ⟨⟨by simp [Rc.clean], by simp [Rc.clean]⟩, ⟨m3, m4⟩, ⟨m5, m6⟩⟩ hy0
                have Hq := hide hq; have Hcl := hide hcl; have Hbd := hide hbd
                have Hml := hide (mem_len k j)
                clear hxk hri hq hcl hbd
                obtain ⟨wb, hwb⟩ : ∃ wb, wb = (wr.alloc (.cells #[.int .i64 13000000, .int .i64 13000000, .int .i64 l0, .int .i64 l1, .int .i64 g0, .int .i64 g1] 96)).alloc (.cells #[.int .i64 j] 3) := ⟨_, rfl⟩
                have bb : Below wr.heap.size wr wb := by rw [hwb]; exact (below_new wr _).alloc (by simp) _
                have hob : Own wb wo.heap.size 3 1 icell u12 (mem k j) := Hown.out.below bb
                have hrb : Rd wb wb.heap.size icell (some ⟨wr.heap.size + 1, 0, none⟩) [(j : Int)] := by
                  rw [hwb]
                  have := Rd.new (cells := icell) (wr.alloc (.cells #[.int .i64 13000000, .int .i64 13000000, .int .i64 l0, .int .i64 l1, .int .i64 g0, .int .i64 g1] 96)) #[.int .i64 j] 3 [(j : Int)] rfl
                  rw [World.size_alloc] at this
                  exact this.more (by simp)
                have hcb : ∀ i v, (#[Value.int .i64 13000000, .int .i64 13000000, .int .i64 l0, .int .i64 l1, .int .i64 g0, .int .i64 g1] : Array Value)[i]? = some v → wb.cell? ⟨wr.heap.size, i, none⟩ = some v := fun i v hv => by
                  rw [hwb]
                  exact (World.cell?_alloc_lt _ _ _ (by simp)).trans (cell_new wr _ _ i v hv)
                have hub : ∀ g', u12.ownBlock = some g' → g' < wr.heap.size := fun g' hg' => (World.ownsRow.lt Hown.out g' hg').2
                have szb : wb.heap.size = wr.heap.size + 2 := by rw [hwb]; simp
                have Hwb := hide hwb.symm; have Hob := hide hob; have Hrb := hide hrb; have Hcb := hide hcb; have Hub := hide hub
                clear hwb hob hrb hcb hub
                go_wp2_with (at_builtin; rw [Hwb.out]; refine appl_int rfl _ (.tmp 50) (.tmp 52) rfl wo.heap.size u12 (mem k j) rfl Hob.out _ _ 1 1 [(j : Int)] rfl rfl Hrb.out (by have := Hml.out; simp; omega) (Nat.le_trans hbi.size bb.size) ?_; intro v4 w4 hown4 hg4; have kc := fun i v hv => World.grownBy.cell hg4 (Hcb.out i v hv) (fun e => Nat.lt_irrefl _ (Hub.out _ e.symm)); have k0 := kc 0 _ rfl; have k1 := kc 1 _ rfl; have k2 := kc 2 _ rfl; have k3 := kc 3 _ rfl; have k4 := kc 4 _ rfl; have k5 := kc 5 _ rfl; clear kc)
                refine (least_any _ _ _ _ _ _ _ _ ⟨hy0, by omega⟩ ⟨by omega, by omega⟩ ⟨m3, by omega⟩ ⟨m5, by omega⟩).mono ?_; rintro e w5 ⟨rfl, b5⟩
                have bi4 : Below wo.heap.size wo w4 := below_own Hob.out (hbi.trans (bb.mono hbi.size)) hg4 (Nat.le_trans hbi.size bb.size)
                have o5 := hide (Own.below hown4 b5)
                clear hown4 k0 k1 k2 k3 k4 k5
                go_wp2_with fail
                refine ⟨⟨j + 1, _, by omega, by go_num, rfl, Hbd.out.1, Hbd.out.2, hide ?_, by rw [mem_succ, Hq.out]; exact o5.out, bi4.trans (b5.mono bi4.size)⟩, by simp [intOf]; omega⟩
                rw [take_snoc Hcl.out, endF_snoc, ← hy.out]
                rfl
            · obtain rfl : j = g.length := by omega
              have hy' : y = endF (cleanTo g k g.length) lo := by rw [hy.out, List.take_of_length_le (by rw [cleanTo_len]; exact Nat.le_refl _)]
              have Hy' := hide hy'; clear hy'
              obtain ⟨Al, cl, rfl, hrl⟩ := Hown.out.rd
              have Hrl := hide hrl; clear hrl hc
              have hml : (mem k g.length).length ≤ 12 := Nat.le_trans (mem_len _ _) hk12
              have hstep : cleanFold g lo want (k + 1) = if decide (want ≤ y) && better (mem k g.length) st then some (mem k g.length) else st := by
                rw [cleanFold_succ, ← hst.out, cleanStep, ← Hy'.out, mem_all k g.length Hkp.out 12 hk12]
              have Hstep := hide hstep; clear hstep
              have hbr : Below w2.heap.size w2 wr := hb.trans (hbi.mono hb.size)
              have Hrdr := hide ((hrd.out.below hbi).more hbi.size)
              have Hlen' := hide (show ∀ b, some (mem k g.length) = some b → b.length ≤ g.length from fun b hb => by injection hb with hb; rw [← hb]; exact mem_len _ _)
              by_cases hw : want ≤ y
              · have Hw := hide (show decide (want ≤ y) = true by simpa using hw)
                rcases st with _ | bb
                · have l1 : ((mem k g.length).length : Int) < fewOf g none := by have := mem_len k g.length; simp only [fewOf]; omega
                  go_wp2_with fail
                  refine ⟨⟨k + 1, some (mem k g.length), Al, cl, by omega, by go_num, rfl, rfl, hide ?_, Hlen', Hrl, hbr⟩, by simp [intOf]; omega⟩
                  rw [Hstep.out]
                  simp [better, hw]
                · have hf : fewOf g (some bb) = (bb.length : Int) := rfl
                  have hbl : bb.length ≤ 12 := Nat.le_trans (hlen.out bb rfl) hk12
                  by_cases l1 : (mem k g.length).length < bb.length
                  · go_wp2_with fail
                    refine ⟨⟨k + 1, some (mem k g.length), Al, cl, by omega, by go_num, rfl, rfl, hide ?_, Hlen', Hrl, hbr⟩, by simp [intOf]; omega⟩
                    rw [Hstep.out]
                    simp [better, hw, l1]
                  · by_cases l2 : (mem k g.length).length = bb.length
                    · have t1 : (((mem k g.length).length : Int) == (bb.length : Int)) = true := by simp [l2]
                      have hce := cmpL_earl (mem k g.length) bb l2
                      have L2 := hide l2; clear l2
                      by_cases hcm : cmpL (mem k g.length) bb < 0
                      · have Hce := hide (show earl (mem k g.length) bb = true by rw [← hce]; simpa using hcm)
                        clear hce
                        go_wp2_with (go_at_call 54; refine (compare_any _ _ (mem k g.length) bb _ _ _ _ _ rfl rfl (by omega) (by omega) Hrl.out Hrdr.out).mono ?_; rintro e w' ⟨rfl, rfl⟩)
                        refine ⟨⟨k + 1, some (mem k g.length), Al, cl, by omega, by go_num, rfl, rfl, hide ?_, Hlen', Hrl, hbr⟩, by simp [intOf]; omega⟩
                        rw [Hstep.out]
                        have h2 := L2.out
                        simp [better, hw, Hce.out, h2]
                      · have Hce := hide (show earl (mem k g.length) bb = false by rw [← hce]; simpa using hcm)
                        clear hce
                        go_wp2_with (go_at_call 54; refine (compare_any _ _ (mem k g.length) bb _ _ _ _ _ rfl rfl (by omega) (by omega) Hrl.out Hrdr.out).mono ?_; rintro e w' ⟨rfl, rfl⟩)
                        refine ⟨⟨k + 1, some bb, A', c', by omega, by go_num, rfl, rfl, hide ?_, hlen, Hrdr, hbr⟩, by simp [intOf]; omega⟩
                        rw [Hstep.out]
                        have h2 := L2.out
                        simp [better, hw, Hce.out, h2]
                    · have t1 : (((mem k g.length).length : Int) == (bb.length : Int)) = false := by simp; omega
                      have L2 := hide l2; clear l2
                      go_wp2_with fail
                      refine ⟨⟨k + 1, some bb, A', c', by omega, by go_num, rfl, rfl, hide ?_, hlen, Hrdr, hbr⟩, by simp [intOf]; omega⟩
                      rw [Hstep.out]
                      simp [better, l1, L2.out]
              · go_wp2_with fail
                refine ⟨⟨k + 1, st, A', c', by omega, by go_num, rfl, rfl, hide ?_, hlen, Hrdr, hbr⟩, by simp [intOf]; omega⟩
                rw [Hstep.out]
                simp [hw]
        · obtain rfl : k = p := by omega
          have herr : cleanErr g ⟨lo, hi⟩ want = if st.isSome then 0 else 6 := by
            simp only [cleanErr, Hg.out, Hs.out, Ht.out, if_true, ← Hp.out, ← hst.out]
          have hL : cleanL g ⟨lo, hi⟩ want = if st.isSome then st.getD [] else [] := by
            unfold cleanL
            rw [herr]
            simp only [← Hp.out, ← hst.out]
            cases st <;> simp
          have Herr := hide herr; have HL := hide hL
          clear herr hL hc
          rcases st with _ | bb
          · have hf : fewOf g none = (g.length : Int) + 1 := rfl
            go_wp2_with fail
            go_ret2
            refine ⟨none, 0, ?_, ?_, bwr⟩
            · simp [HL.out, Herr.out]
            · simp [HL.out, Rd.nil]
          · have hf : fewOf g (some bb) = (bb.length : Int) := rfl
            have hbl := hlen.out bb rfl
            go_wp2_with fail
            go_ret2
            refine ⟨A', c', ?_, ?_, bwr⟩
            · simp [HL.out, Herr.out]
            · have := hrd.out
              simpa [HL.out] using this
end Go.Proofs.Ytkmocikcohhdoaa
