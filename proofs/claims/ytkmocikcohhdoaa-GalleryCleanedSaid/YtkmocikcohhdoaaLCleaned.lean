/- GalleryCleaned: what is cleaned is enough, and no fewer reaches are, nor as many that come before. The law returns true for every gallery, flow in, wish and other set of reaches. No conditions. -/
import Derived.Test.YtkmocikcohhdoaaJ11
import Derived.Test.YtkmocikcohhdoaaJ1
import Derived.Deep.Cut
set_option linter.unusedVariables false
set_option linter.unusedSimpArgs false
namespace Go.Proofs.Ytkmocikcohhdoaa
open Go.RowKit Go.Shelf Go.WideShapes Go.ChangeShapes Go.ChangeAt
theorem i64_or_nat (a b : Nat) (ha : a < 4611686018427387904) (hb : b < 4611686018427387904) : bits .or .i64 (a : Int) (b : Int) = ((a ||| b : Nat) : Int) := by
  have hx : a ||| b < 2 ^ 62 := Nat.or_lt_two_pow (by omega) (by omega)
  show IntKind.i64.wrap ((BitVec.ofInt 64 (a : Int) ||| BitVec.ofInt 64 (b : Int)).toNat : Int) = _
  rw [BitVec.toNat_or, ofInt_i64 a (by omega), ofInt_i64 b (by omega), IntKind.wrap_i64]
  omega
theorem other_and {x n p : Nat} (hp : p = 2 ^ n) (h12 : p ≤ 4096) (h1 : 1 ≤ p) (hx : x ≤ 65535) : ∃ o : Nat, o < p ∧ bits .and .i64 (x : Int) ((p : Int) - 1) = (o : Int) := by
  refine ⟨x &&& (p - 1), ?_, ?_⟩
  · rw [hp, Nat.and_two_pow_sub_one_eq_mod]; exact Nat.mod_lt _ (by omega)
  · rw [show (p : Int) - 1 = ((p - 1 : Nat) : Int) by omega, i64_and_nat _ _ (by omega) (by omega)]
theorem cleanTo_none (g : List Rc) : ∀ k, cleanTo g 0 k = g
  | 0 => cleanTo_zero g 0
  | k + 1 => by rw [cleanTo_no g 0 k (Nat.zero_testBit k)]; exact cleanTo_none g k
set_option maxHeartbeats 40000000 in
set_option maxRecDepth 100000 in
theorem cleaned_walk (A : Option Addr) (g : List Rc) (s : Sp) (want : Int) (n c x : Nat) (w : World) (hn : n = g.length) (hm : n ≤ 9223372036854775807) (hx : Rd w w.heap.size Rc.cells A g) (hx65 : x ≤ 65535) :
    Calls Try.prog 11 #[.slice A n c, .agg #[.int .i64 s.lo, .int .i64 s.hi], .int .i64 want, .int .u16 (x : Int)] w fun e w' => e = .returned (.bool true) ∧ Below w.heap.size w w' := by
  obtain ⟨b4, w1, e4, ew1, hx4, hb1, hz1⟩ := mk_bx w #[.slice A n c] 22
  obtain ⟨b5, w2, e5, ew2, hx5, hb2, hz2⟩ := mk_bx w1 #[.int .i64 s.lo, .int .i64 s.hi] 24
  have e45 : b4 + 1 = b5 := by have := e5.out; omega
  have hB2 := hb1.trans (hb2.mono hb1.size)
  have Hn := hide hn
  have Hx := hide (hx.bel hB2)
  have X4 := hide (hx4.bel hb2); have X5 := hide hx5
  clear hn hx hx4 hx5 hz1 hz2 hb1 hb2
  go_enter Try.func11, Try.ntmps11
  go_wp2_with fail
  rw [ew1.out, e4.out, e45, ew2.out]
  refine (galive_any _).mono ?_
  rintro e w3 ⟨rfl, hb3⟩
  have hB3 := hB2.trans (hb3.mono hB2.size)
  have q4 := (X4.out.bel hb3).w1.1
  obtain ⟨q0, q1, _, _⟩ := (X5.out.bel hb3).w2
  go_wp2_with fail
  refine (gready_any A g s n c w3 Hn.out hm (Hx.out.bel hb3)).mono ?_
  rintro e w4 ⟨rfl, hb4⟩
  have hb24 := hb3.trans (hb4.mono hb3.size)
  have hB4 := hB2.trans (hb24.mono hB2.size)
  cases hok : gOk g && Sp.ok 0 1000000 s
  · clear hok
    go_wp2_with fail
    go_ret
    exact ⟨rfl, hB4⟩
  by_cases hw0 : want < 0
  · clear hok
    go_wp2_with fail
    go_ret
    exact ⟨rfl, hB4⟩
  by_cases hw1 : 13000000 < want
  · clear hok
    go_wp2_with fail
    go_ret
    exact ⟨rfl, hB4⟩
  obtain ⟨hg, hso⟩ := (Bool.and_eq_true _ _).mp hok
  have Hg := hide hg; have Hso := hide hso
  have hn12 : n ≤ 12 := by
    have h1 := hg
    unfold gOk inB at h1
    simp only [Bool.and_eq_true, decide_eq_true_eq] at h1
    rw [Hn.out]; omega
  have hlo : 0 ≤ s.lo ∧ s.lo ≤ 1000000 := by obtain ⟨h1, h2, h3⟩ := okS_fine hso; omega
  have hwt : inB 0 13000000 want = true := by unfold inB; simp; omega
  have hce : cleanErr g s want = if (cleanFold g s.lo want (2 ^ n)).isSome then 0 else 6 := by
    unfold cleanErr; rw [hg, hso, hwt, ← Hn.out]; rfl
  have Hlo := hide hlo; have Hce := hide hce
  obtain ⟨p, hp⟩ : ∃ p, p = 2 ^ n := ⟨_, rfl⟩
  have hpw := pow_wrap n hn12 p hp
  have hp1 : 1 ≤ p := by rw [hp]; exact Nat.one_le_two_pow
  have hp4 : p ≤ 4096 := by rw [hp]; exact Nat.pow_le_pow_right (n := 2) (by omega) hn12
  obtain ⟨o, hop, hoand⟩ := other_and hp hp4 hp1 hx65
  have ho65 : o < 65536 := Nat.lt_of_lt_of_le hop (Nat.le_trans hp4 (by decide))
  have Hp := hide hp
  clear hok hg hso q4 q0 q1 hlo hwt hce hp
  have q4 := (X4.out.bel hb24).w1.1
  obtain ⟨q0, q1, _, _⟩ := (X5.out.bel hb24).w2
  have Hpw := hide hpw
  go_wp2_with fail
  clear hpw hoand
  go_loopw [12, 13, 50] (fun m v i wr => ∃ (k : Nat) (va : Value), va = v ∧ k ≤ n ∧ i = .int .i64 k ∧ m = .int .i64 (mem o k).length ∧ Hid (Own wr w4.heap.size 3 1 icell va (mem o k)) ∧ Below w4.heap.size w4 wr) (fun _ _ i _ => n - (intOf i).toNat)
  case atStart => exact ⟨0, _, rfl, by omega, rfl, rfl, hide (Own.nil _ _ _ _ _), Below.refl _ _⟩
  case round =>
    obtain ⟨k, va, rfl, hk, rfl, rfl, hva, hb⟩ := hrel
    clear q4 q0 q1
    have q4 := ((X4.out.bel hb24).bel hb).w1.1
    have hmk := mem_len o k
    by_cases hlt : k < n
    · have ht := bit_test o k ho65
      cases hq : o.testBit k
      · rw [hq] at ht
        have Hq := hide hq
        clear hq
        go_wp2_with fail
        exact ⟨⟨k + 1, va, rfl, by omega, by go_num, by rw [mem_succ, Hq.out]; simp, by rw [mem_succ, Hq.out]; simpa using hva, hb⟩, by simp [intOf]; omega⟩
      · rw [hq] at ht
        have Hq := hide hq
        obtain ⟨b62, w62, e62, ew62, hr62, hb62⟩ := mk_row (cells := icell) wr #[.int .i64 k] 3 [(k : Int)] rfl
        have Hva := hide (hva.out.bel hb62); have Hr62 := hide hr62; have Hb := hide hb
        have hva0 := fun q hq => (hva.out.blockG (g := q) hq).1
        have hbs : w4.heap.size ≤ w62.heap.size := Nat.le_trans hb.size hb62.size
        clear hq hr62 hva hb
        go_wp2_with (at_builtin; rw [ew62.out, e62.out]; refine wpList_app (v := va) (xs := mem o k) (ys := [(k : Int)]) (n := 1) el_int rfl (.tmp 60) (.tmp 62) rfl rfl Hva.out rfl rfl Hr62.out (by omega) hbs ?_; intro vv wv hown1 hg1 hat1)
        have hB62 := Hb.out.trans (hb62.mono Hb.out.size)
        exact ⟨⟨k + 1, vv, rfl, by omega, by go_num, by rw [mem_succ, Hq.out]; simp, by rw [mem_succ, Hq.out]; exact hide hown1, hB62.trans ((Kept.grown hg1).below (fun b hb e => by have := hva0 b e.symm; omega) hB62.size)⟩, by simp [intOf]; omega⟩
    · obtain rfl : k = n := by omega
      obtain ⟨Ap, cp, rfl, hrp⟩ := hva.out.rdn (mem o k).length rfl
      have Hrp := hide hrp; have Hb := hide hb
      obtain ⟨q0, q1, _, _⟩ := ((X5.out.bel hb24).bel hb).w2
      have hb2r := hb24.trans (hb.mono hb24.size)
      clear hrp hva
      go_wp2_with fail
      refine (clean_any A g k c s.lo s.hi want wr Hn.out (by omega) (Hx.out.bel hb2r)).mono ?_
      rintro e w7 ⟨Al, cl, rfl, hrl, hb7⟩
      have hb27 := hb2r.trans (hb7.mono hb2r.size)
      have hB7 := hB2.trans (hb27.mono hB2.size)
      clear q4 q0 q1 hb
      have q4 := (X4.out.bel hb27).w1.1
      have hgs : ∀ t, ∀ r ∈ cleanTo g t g.length, r.small := fun t => cleanTo_small g t (gOk_small Hg.out)
      have Hgs := hide hgs
      clear hgs
      have Hrp7 := hide (Hrp.out.bel hb7)
      cases hF : cleanFold g s.lo want (2 ^ k) with
      | none =>
        have hee : cleanErr g s want = 6 := by rw [Hce.out, hF]; rfl
        have hL : cleanL g s want = [] := by unfold cleanL; rw [hee]; rfl
        have hL' : cleanL g ⟨s.lo, s.hi⟩ want = [] := hL
        have hee' : cleanErr g ⟨s.lo, s.hi⟩ want = 6 := hee
        rw [hL', hee']
        have hlast := fold_none _ hF (p - 1) (by rw [← Hp.out]; omega)
        obtain ⟨y, hy⟩ : ∃ y, y = endF (cleanTo g (p - 1) g.length) s.lo := ⟨_, rfl⟩
        rw [← hy] at hlast
        have Hy := hide hy
        have hpw := Hpw.out
        clear hee hL hL' hee' hF hy
        go_wp2_with fail
        rw [show (p : Int) - 1 = ((p - 1 : Nat) : Int) by omega]
        refine (gives_any A g k c (p - 1) b4 b5 s.lo s.hi w7 Hn.out (by omega) (Hx.out.bel hb27) (X4.out.bel hb27) (X5.out.bel hb27) (by omega) (Hgs.out _) Hlo.out.1 (by have := Hlo.out; omega)).mono ?_
        rintro e w8 ⟨rfl, hb8⟩
        rw [← Hy.out]
        go_wp2_with fail
        go_ret
        exact ⟨by first | rfl | simp, hB7.trans (hb8.mono hB7.size)⟩
      | some L =>
        have hee : cleanErr g ⟨s.lo, s.hi⟩ want = 0 := by show cleanErr g s want = 0; rw [Hce.out, hF]; rfl
        have hL : cleanL g ⟨s.lo, s.hi⟩ want = L := by unfold cleanL; rw [hee, if_pos rfl, ← Hn.out]; show (cleanFold g s.lo want (2 ^ k)).getD [] = L; rw [hF]; rfl
        rw [hL] at hrl
        rw [hL, hee]
        obtain ⟨⟨so, hso1, rfl, hwo⟩, hmin⟩ := fold_some _ _ hF
        obtain ⟨nl, hnl⟩ : ∃ nl, nl = (mem so 12).length := ⟨_, rfl⟩
        have hnl12 : nl ≤ 12 := by rw [hnl]; exact mem_len so 12
        have hso65 : so < 65536 := Nat.lt_of_lt_of_le hso1 (by rw [← Hp.out]; exact Nat.le_trans hp4 (by decide))
        rw [← hnl]
        have Hrl := hide hrl; have Hnl := hide hnl; have Hso1 := hide hso1; have Hwo := hide hwo; have Hmin := hide hmin
        clear hee hL hF hrl hnl hso1 hwo hmin hb7
        go_wp2_with fail
        go_loopw [17, 96] (fun ow i wq => ∃ k2 : Nat, k2 ≤ nl ∧ i = .int .i64 k2 ∧ ow = .int .i64 (ownTo (mem so 12) k2 : Nat) ∧ w7 = wq) (fun _ i _ => nl - (intOf i).toNat)
        case atStart => exact ⟨0, by omega, rfl, rfl, rfl⟩
        case round =>
          obtain ⟨k2, hk2, rfl, rfl, rfl⟩ := hrel
          have how := ownTo_lt (by omega) Hso1.out k2
          by_cases hlt : k2 < nl
          · obtain ⟨b1, o1, y, rfl, hb1, hyk, c0⟩ := Hrl.out.int (i := k2) (by rw [← Hnl.out]; exact hlt)
            have hyb := mem_lt Hso1.out hn12 hyk
            obtain ⟨y', rfl⟩ : ∃ y' : Nat, y = y' := ⟨y.toNat, by omega⟩
            have hy1 : y' < k := by omega
            obtain ⟨py, hpy⟩ : ∃ py, py = 2 ^ y' := ⟨_, rfl⟩
            have hpyb : py ≤ 4096 := by rw [hpy]; exact Nat.le_trans (Nat.pow_le_pow_right (by omega) (show y' ≤ 12 by omega)) (by decide)
            have hsucc := ownTo_succ hyk
            rw [Int.toNat_natCast, ← hpy] at hsucc
            obtain ⟨ow, hw⟩ : ∃ ow, ow = ownTo (mem so 12) k2 := ⟨_, rfl⟩
            rw [← hw] at how hsucc
            have hor := i64_or_nat ow py (Nat.lt_trans how (by decide)) (Nat.lt_of_le_of_lt hpyb (by decide))
            have hpwy := pow_wrap y' (Nat.le_of_lt (Nat.lt_of_lt_of_le hy1 hn12)) py hpy
            rw [← hw]
            have Hsucc := hide hsucc; have Hyk := hide hyk
            clear hyb hpy hsucc hw hyk
            by_cases hk0 : k2 = 0
            · have hd : ¬ 0 < k2 := by omega
              clear hk0
              go_wp2_with fail
              exact ⟨⟨k2 + 1, by omega, by go_num, by rw [Hsucc.out], trivial⟩, by simp [intOf]; omega⟩
            · have hd : decide ((0 : Int) < (k2 : Int)) = true := decide_eq_true (by omega)
              obtain ⟨b2, o2, z, e2, _, hzk, c1⟩ := Hrl.out.int (i := k2 - 1) (by rw [← Hnl.out]; omega)
              injection e2 with e2
              injection e2 with e2 e3
              subst e2; subst e3
              have hzy := mem_up hzk (by rw [show k2 - 1 + 1 = k2 by omega]; exact Hyk.out)
              have i1 : 0 ≤ (k2 : Int) - 1 := by omega
              have i2 : ((k2 : Int) - 1).toNat = k2 - 1 := by omega
              have i3 : (k2 : Int) - 1 < (nl : Int) := by omega
              clear hzk hk0
              go_wp2_with fail
              exact ⟨⟨k2 + 1, by omega, by go_num, by rw [Hsucc.out], trivial⟩, by simp [intOf]; omega⟩
          · obtain rfl : nl = k2 := by omega
            have hown : ownTo (mem so 12) nl = so := by rw [Hnl.out]; exact ownTo_all hn12 Hso1.out
            rw [hown]
            clear hown how
            go_wp2_with fail
            refine (gives_any A g k c so b4 b5 s.lo s.hi w7 Hn.out (by omega) (Hx.out.bel hb27) (X4.out.bel hb27) (X5.out.bel hb27) hso65 (Hgs.out _) Hlo.out.1 (by have := Hlo.out; omega)).mono ?_
            rintro e w8 ⟨rfl, hb8⟩
            obtain ⟨y, hy⟩ : ∃ y, y = endF (cleanTo g so g.length) s.lo := ⟨_, rfl⟩
            have hwy := Hwo.out
            rw [← hy] at hwy ⊢
            have Hy := hide hy
            have hb28 := hb27.trans (hb8.mono hb27.size)
            have hB8 := hB2.trans (hb28.mono hB2.size)
            have Hrl8 := hide (Hrl.out.bel hb8); have Hrp8 := hide (Hrp7.out.bel hb8)
            clear q4 hy Hrl Hrp7
            have q4 := (X4.out.bel hb28).w1.1
            obtain ⟨q0, q1, _, _⟩ := (X5.out.bel hb28).w2
            by_cases hl0 : nl = 0
            · have hso0 : so = 0 := by
                have h1 := ownTo_all hn12 Hso1.out
                rw [← Hnl.out, hl0] at h1
                rw [← h1]; rfl
              have hyg : y = endF g s.lo := by rw [Hy.out, hso0, cleanTo_none]
              have hnl0 : ((nl : Int) == 0) = true := by simp [hl0]
              have hnl1 : (nl : Int) = 0 := by omega
              obtain ⟨F, hF1, hF2, hF3⟩ := flows_free_err Hg.out Hso.out
              have hFlen : F.length = k + 1 := by rw [flowsF_len _ _ _ _ hF1, Hn.out]
              have hFL : flL g s [] = F := by unfold flL; rw [if_pos hF3, hF1]; rfl
              have HF3 := hide hF3; have HFL := hide hFL; have HFlen := hide hFlen; have HF2 := hide hF2; have Hyg := hide hyg
              clear hso0 hyg hl0 hF1 hF2 hF3 hFlen hFL
              go_wp2_with fail
              refine (flows_any A none g s [] k c 0 0 w8 Hn.out (by omega) (Hx.out.bel hb28) rfl (by omega) (Rd.nil _ _ _ _)).mono ?_
              rintro e w9 ⟨vf, vl, rfl, hof, _, hb9⟩
              rw [HF3.out]
              rw [HFL.out] at hof
              obtain ⟨Af, cf, rfl, hrf⟩ := hof.rdn (k + 1) HFlen.out
              obtain ⟨bf, of, lo2, hi2, rfl, _, hfk, c2, c3⟩ := hrf.sp (i := k) (by rw [HFlen.out]; omega)
              have hlo2 : lo2 = y := by
                have h1 := HF2.out
                rw [← Hn.out, List.getD_eq_getElem?_getD, hfk] at h1
                rw [Hyg.out]; exact h1
              rw [hlo2] at c2
              have hb29 := hb28.trans (hb9.mono hb28.size)
              have q4 := (X4.out.bel hb29).w1.1
              have ik : (k : Int) < (k : Int) + 1 := by omega
              clear hof hrf hfk hlo2
              go_wp2_with fail
              go_ret
              exact ⟨by first | rfl | simp, hB2.trans (hb29.mono hB2.size)⟩
            · have hnl0 : ((nl : Int) == 0) = false := by simp; omega
              have hnl1 : ¬ (nl : Int) = 0 := by omega
              clear hl0
              go_wp2_with fail
              refine (gives_any A g k c o b4 b5 s.lo s.hi w8 Hn.out (by omega) (Hx.out.bel hb28) (X4.out.bel hb28) (X5.out.bel hb28) ho65 (Hgs.out _) Hlo.out.1 (by have := Hlo.out; omega)).mono ?_
              rintro e w9 ⟨rfl, hb9⟩
              obtain ⟨z, hz⟩ : ∃ z, z = endF (cleanTo g o g.length) s.lo := ⟨_, rfl⟩
              rw [← hz]
              have hb29 := hb28.trans (hb9.mono hb28.size)
              have hB9 := hB2.trans (hb29.mono hB2.size)
              obtain ⟨no, hno⟩ : ∃ no, no = (mem o k).length := ⟨_, rfl⟩
              rw [← hno] at hmk ⊢
              have Hno := hide hno
              by_cases hz1 : z < want
              · clear hz hno
                go_wp2_with fail
                go_ret
                exact ⟨by first | rfl | simp, hB9⟩
              have hm12 := mem_all o k (by rw [← Hp.out]; exact hop) 12 hn12
              have hmin := Hmin.out o (by rw [← Hp.out]; exact hop) (by rw [← hz]; omega)
              rw [hm12] at hmin
              by_cases hz2 : nl < no
              · clear hz hno hm12 hmin
                go_wp2_with fail
                go_ret
                exact ⟨by first | rfl | simp, hB9⟩
              have hz3 : ¬ no < nl := fun h => hmin (.inl (by rw [← hno, ← Hnl.out]; exact h))
              obtain rfl : nl = no := by omega
              have he : earl (mem o k) (mem so 12) = false := by
                cases h : earl (mem o k) (mem so 12) with
                | false => rfl
                | true => exact absurd (.inr ⟨by rw [← hno, ← Hnl.out], h⟩) hmin
              have He := hide he
              clear hz hno hm12 hmin he hz2 hz3
              go_wp2_with fail
              go_loopw [183] (fun i wq => ∃ k3 : Nat, k3 ≤ nl ∧ i = .int .i64 k3 ∧ Hid (earl ((mem o k).drop k3) ((mem so 12).drop k3) = false) ∧ Below w9.heap.size w9 wq) (fun i _ => nl - (intOf i).toNat)
              case atStart => exact ⟨0, by omega, rfl, hide (by simpa using He.out), Below.refl _ _⟩
              case round =>
                obtain ⟨k3, hk3, rfl, he3, hb3⟩ := hrel
                by_cases hlt : k3 < nl
                · obtain ⟨b1, o1, x1, rfl, _, hx1, c0⟩ := ((Hrl8.out.bel hb9).bel hb3).int (i := k3) (by rw [← Hnl.out]; exact hlt)
                  obtain ⟨b2, o2, x2, rfl, _, hx2, d0⟩ := ((Hrp8.out.bel hb9).bel hb3).int (i := k3) (by rw [← Hno.out]; exact hlt)
                  by_cases hxx : x1 = x2
                  · subst hxx
                    have he4 := he3.out
                    rw [earl_step _ _ k3 _ _ hx2 hx1 rfl] at he4
                    have He4 := hide he4
                    have t1 : (x1 != x1) = false := by simp
                    clear he4 hx1 hx2
                    go_wp2_with fail
                    go_quiet (fail)
                    go_wp2_with fail
                    exact ⟨⟨k3 + 1, by omega, by go_num, He4, below_drewN hb3 _⟩, by simp [intOf]; omega⟩
                  · have he4 := he3.out
                    rw [earl_stop _ _ k3 _ _ hx2 hx1 (fun h => hxx h.symm)] at he4
                    have hlt2 : x1 < x2 := by simp at he4; omega
                    have t1 : (x1 != x2) = true := by simp [hxx]
                    have t2 : decide (x1 = x2) = false := by simp [hxx]
                    have HB := hide hb3
                    clear he4 hx1 hx2 he3 hxx hb3
                    go_wp2_with fail
                    go_quiet (fail)
                    go_wp2_with fail
                    go_quiet (fail)
                    go_wp2_with fail
                    go_ret
                    exact ⟨by first | rfl | simp, hB9.trans ((below_drewN (below_drewN HB.out _) _).mono hB9.size)⟩
                · go_wp2_with fail
                  go_ret
                  exact ⟨by first | rfl | simp, hB9.trans (hb3.mono hB9.size)⟩
set_option maxRecDepth 100000 in
theorem galleryCleaned_lifted (os : Os) (started : os.Started) (H : Type) (enc : TypeId × Value → H) :
    ReturnsInHanded {} Try.checked os 11 .any (Rows.galleryCleanedSpec.pre6 enc Try.prog Try.f11 Rows.galleryCleanedRow.domain false) (Rows.galleryCleanedSpec.post enc Try.prog Try.f11 false true false false) := by
  refine law_lifted os started H enc (s := Rows.galleryCleanedSpec) Try.func11 (by kernel_rfl) ?_ rfl Try.underlying4 rfl (of_decide_eq_true (by kernel_rfl))
    (ChangeSpec.witness6 (enc := enc) (C := Try.checked) false ⟨#[], #[.slice none 0 0, .agg #[.int .i64 0, .int .i64 0], .int .i64 0, .int .u16 0], []⟩ 8 (by kernel_rfl) (by kernel_rfl) (by kernel_rfl) (by kernel_rfl)) ?_
  · intro ds hds
    match ds, hds with
    | [a, b, c, d], _ => rfl
  · intro W base args ds ps hval hA hlt
    rw [Try.params11] at hA hval
    obtain ⟨v0, v1, v2, v3, d0, d1, d2, d3, p0, p1, p2, p3, rfl, rfl, rfl, h0, h1, h2, h3⟩ := trodAll_four hA
    obtain ⟨A, n, c, g, rfl, hn, hm, hr, _⟩ := open_sl shape_rc Try.underlying22 cells_rc Rc.len (by omega) (hval 0 _ v0 rfl rfl) h0
    obtain ⟨s, rfl, _⟩ := open_val shape_sp Try.underlying24 (hval 1 _ v1 rfl rfl) h1
    obtain ⟨want, rfl, _⟩ := open_i64 (hval 2 _ v2 rfl rfl) h2
    obtain ⟨x, rfl, hx65⟩ := open_u16 (hval 3 _ v3 rfl rfl) h3
    exact cleaned_walk A g s want n c x W hn hm hr hx65

theorem galleryCleaned_holds : Rows.GalleryCleanedSaid :=
  OpenClaim.holds_of_wide 11 Try.f11 rfl rfl rfl rfl rfl rfl rfl ⟨rfl, rfl, rfl, rfl, rfl⟩ rfl rfl rfl rfl rfl (by kernel_rfl) Try.func11 (by kernel_rfl)
    (of_decide_eq_true (by kernel_rfl)) (by unfold Func.isWrapper; rw [if_neg (of_decide_eq_false (by kernel_rfl))]; exact ⟨rfl, rfl⟩)
    (fun os started H enc _ => galleryCleaned_lifted os started H enc)
#print axioms galleryCleaned_holds
end Go.Proofs.Ytkmocikcohhdoaa
