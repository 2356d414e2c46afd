/- Channel: cycle, field, Check, by contracts. -/
import Derived.Test.YthlnbgjlkliopaaNet
import Derived.Test.YthlnbgjlkliopaaC2
set_option linter.unusedVariables false
set_option linter.unusedSimpArgs false
namespace Go.Proofs.Ythlnbgjlkliopaa
open Go.RowKit Go.Shelf
theorem mapB : MapLaw Try.prog 77 3 4 Value.bool ldB (fun _ => True) false :=
  mapLaw_bool Try.underlying3 Try.underlying77 Try.underlying4 (fun w => by kernel_rfl)
theorem mapI : MapLaw Try.prog 104 3 3 (Value.int .i64) ldI okI 0 :=
  mapLaw_int Try.underlying3 Try.underlying104 Try.underlying3 (fun w => by kernel_rfl)
theorem cycle_any (Ac Af : Option Addr) (nc cc nf cf : Nat) (dry days : Int) (w : World) (h1 : 0 ≤ days) (h2 : days ≤ 1000000) :
    Calls Try.prog 37 #[.agg #[.slice Ac nc cc, .slice Af nf cf, .int .i64 dry, .int .i64 days]] w fun e w' => e = .returned (.int .i64 (days * 1440)) ∧ Below w.heap.size w w' := by
  go_enter Try.func37, Try.ntmps37
  go_wp2
  go_ret
  exact ⟨rfl, below_new _ _⟩
theorem field_any (Ac Af : Option Addr) (nc cc nf cf : Nat) (dry days : Int) (A : Option Addr) (xs : List Int) (n c : Nat) (w : World) (hn : n = xs.length) (hm : n ≤ 9223372036854775807) (hx : Rd w w.heap.size icell A xs) (hnf : nf ≤ 1000) :
    Calls Try.prog 29 #[.agg #[.slice Ac nc cc, .slice Af nf cf, .int .i64 dry, .int .i64 days], .slice A n c] w fun e w' => e = .returned (.bool (!(anyOut 0 ((nf : Int) - 1) xs))) ∧ Below w.heap.size w w' := by
  have Hn := hide hn; have Hx := hide hx; clear hn hx
  go_enter Try.func29, Try.ntmps29
  go_wp2_with fail
  refine calls_gen fun W HW => ?_
  have hb : Below w.heap.size w W := by rw [← HW.out]; exact below_new _ _
  refine (channel_from 0 ((nf : Int) - 1) A xs n c W Hn.out hm ((Hx.out.below hb).more hb.size)).mono ?_
  rintro e w' ⟨rfl, hb2⟩
  go_wp2
  go_ret
  exact ⟨rfl, hb.trans (hb2.mono hb.size)⟩
theorem field_lit1 (k nf : Int) : (!(anyOut 0 (nf - 1) [k])) = (decide (0 ≤ k) && decide (k < nf)) := by
  rw [Bool.eq_iff_iff]; simp [anyOut, outB]; omega
theorem field_lit2 (k l nf : Int) : (!(anyOut 0 (nf - 1) [k, l])) = ((decide (0 ≤ k) && decide (k < nf)) && (decide (0 ≤ l) && decide (l < nf))) := by
  rw [Bool.eq_iff_iff]; simp [anyOut, outB]; omega

set_option maxHeartbeats 4000000 in
set_option maxRecDepth 100000 in
theorem chanCheck_any (Ac Af : Option Addr) (nc cc nf cf : Nat) (dry days : Int) (cs : List Ca) (fs : List Int) (w : World) (hnet : NetAt w Ac Af nc nf cs fs) :
    Calls Try.prog 28 #[.agg #[.slice Ac nc cc, .slice Af nf cf, .int .i64 dry, .int .i64 days]] w fun e w' => e = .returned (.int .i64 (netErr cs fs dry days)) ∧ Below w.heap.size w w' := by
  have hnc := hnet.nc2
  have hnf := hnet.nf2
  cases hp : netPre cs fs dry days && !(anyOut 0 cs.length fs)
  · have h50 : netErr cs fs dry days = 50 := by
      have h1 : netOk cs fs dry days = false := by
        simp only [netOk]
        rw [hp]; rfl
      simp [netErr, h1]
    rw [h50]
    have hcase : 16 < nc ∨ (¬ 16 < nc ∧ 12 < nf) ∨ (¬ 16 < nc ∧ ¬ 12 < nf ∧ inB 0 23040 dry = false) ∨ (¬ 16 < nc ∧ ¬ 12 < nf ∧ inB 0 23040 dry = true ∧ inB 1 16 days = false) ∨ (¬ 16 < nc ∧ ¬ 12 < nf ∧ inB 0 23040 dry = true ∧ inB 1 16 days = true ∧ (!(anyOut 0 nc fs)) = false) := by
      rw [← hnet.ec] at hp
      by_cases a : 16 < nc
      · exact .inl a
      by_cases b : 12 < nf
      · exact .inr (.inl ⟨a, b⟩)
      cases c : inB 0 23040 dry
      · exact .inr (.inr (.inl ⟨a, b, rfl⟩))
      cases d : inB 1 16 days
      · exact .inr (.inr (.inr (.inl ⟨a, b, rfl, rfl⟩)))
      have h1 : netPre cs fs dry days = true := by
        unfold netPre
        rw [c, d, ← hnet.ec, ← hnet.ef]
        simp
        omega
      rw [h1, Bool.true_and] at hp
      exact .inr (.inr (.inr (.inr ⟨a, b, rfl, rfl, hp⟩)))
    clear hp h50
    have hat0 := At.new w #[.slice Ac nc cc, .slice Af nf cf, .int .i64 dry, .int .i64 days] 25 w.heap.size rfl _ rfl
    have hB0 := below_new w (.cells #[.slice Ac nc cc, .slice Af nf cf, .int .i64 dry, .int .i64 days] 25)
    rcases hcase with a | ⟨a, b⟩ | ⟨a, b, c⟩ | ⟨a, b, c, d⟩ | ⟨a, b, c, d, e⟩
    · go_enter Try.func28, Try.ntmps28
      go_wp2
      go_ret
      exact ⟨rfl, hB0⟩
    · go_enter Try.func28, Try.ntmps28
      go_wp2
      go_ret
      exact ⟨rfl, hB0⟩
    all_goals
      have C := hide c; clear c
    · go_enter Try.func28, Try.ntmps28
      go_wp2_with fail
      refine (channel_from_one _ _ _ _ _ (by simp)).mono ?_
      rintro e w2 ⟨rfl, hb2⟩
      rw [C.out]
      go_wp2
      go_ret
      exact ⟨rfl, hB0.trans (hb2.mono hB0.size)⟩
    all_goals
      have D := hide d; clear d
    · go_enter Try.func28, Try.ntmps28
      go_wp2_with fail
      refine (channel_from_one _ _ _ _ _ (by simp)).mono ?_
      rintro e w2 ⟨rfl, hb2⟩
      rw [C.out]
      have hat2 := hat0.below hb2
      have hB2 := hB0.trans (hb2.mono hB0.size)
      obtain ⟨q0, q1, q2, q3⟩ := hat2.c4
      clear hat0 hb2 hB0
      go_wp2_with fail
      refine (channel_from_one _ _ _ _ _ (by simp)).mono ?_
      rintro e w3 ⟨rfl, hb3⟩
      rw [D.out]
      have hat3 := hat2.below hb3
      have hB3 := hB2.trans (hb3.mono hB2.size)
      obtain ⟨p0, p1, p2, p3⟩ := hat3.c4
      clear hat2 hb3 hB2 q0 q1 q2 q3
      go_wp2
      go_ret
      exact ⟨rfl, hB3⟩
    · have E3 := hide e; clear e
      go_enter Try.func28, Try.ntmps28
      go_wp2_with fail
      refine (channel_from_one _ _ _ _ _ (by simp)).mono ?_
      rintro e w2 ⟨rfl, hb2⟩
      rw [C.out]
      have hat2 := hat0.below hb2
      have hB2 := hB0.trans (hb2.mono hB0.size)
      obtain ⟨q0, q1, q2, q3⟩ := hat2.c4
      clear hat0 hb2 hB0
      go_wp2_with fail
      refine (channel_from_one _ _ _ _ _ (by simp)).mono ?_
      rintro e w3 ⟨rfl, hb3⟩
      rw [D.out]
      have hat3 := hat2.below hb3
      have hB3 := hB2.trans (hb3.mono hB2.size)
      obtain ⟨p0, p1, p2, p3⟩ := hat3.c4
      clear hat2 hb3 hB2 q0 q1 q2 q3
      go_wp2_with fail
      refine (channel_from _ _ _ _ _ _ _ hnet.ef (by omega) ((hnet.rf.below hB3).more hB3.size)).mono ?_
      rintro e w4 ⟨rfl, hb4⟩
      rw [E3.out]
      go_wp2
      go_ret
      exact ⟨rfl, hB3.trans (hb4.mono hB3.size)⟩
  · have hp2 : ¬ (16 < nc) ∧ ¬ (12 < nf) := by
      have := hnet.ec; have := hnet.ef
      simp [netPre] at hp
      omega
    obtain ⟨n1, n2⟩ := hp2
    have e1 : inB 0 23040 dry = true := by simp [netPre] at hp; simp [hp]
    have e2 : inB 1 16 days = true := by simp [netPre] at hp; simp [hp]
    have e3 : (!(anyOut 0 nc fs)) = true := by rw [hnet.ec]; simp [netPre] at hp; simp [hp]
    have E1 := hide e1; have E2 := hide e2; have E3 := hide e3
    have Hp := hide hp
    have hat0 := At.new w #[.slice Ac nc cc, .slice Af nf cf, .int .i64 dry, .int .i64 days] 25 w.heap.size rfl _ rfl
    have hB0 := below_new w (.cells #[.slice Ac nc cc, .slice Af nf cf, .int .i64 dry, .int .i64 days] 25)
    clear hp e3 e1 e2
    go_enter Try.func28, Try.ntmps28
    go_wp2_with fail
    refine (channel_from_one _ _ _ _ _ (by simp)).mono ?_
    rintro e w2 ⟨rfl, hb2⟩
    rw [E1.out]
    have hat2 := hat0.below hb2
    have hB2 := hB0.trans (hb2.mono hB0.size)
    obtain ⟨q0, q1, q2, q3⟩ := hat2.c4
    clear hat0 hb2 hB0
    go_wp2_with fail
    refine (channel_from_one _ _ _ _ _ (by simp)).mono ?_
    rintro e w3 ⟨rfl, hb3⟩
    rw [E2.out]
    have hat3 := hat2.below hb3
    have hB3 := hB2.trans (hb3.mono hB2.size)
    obtain ⟨p0, p1, p2, p3⟩ := hat3.c4
    clear hat2 hb3 hB2 q0 q1 q2 q3
    go_wp2_with fail
    refine (channel_from _ _ _ _ _ _ _ hnet.ef (by omega) ((hnet.rf.below hB3).more hB3.size)).mono ?_
    rintro e w4 ⟨rfl, hb4⟩
    rw [E3.out]
    have hat4 := hat3.below hb4
    have hB4 := hB3.trans (hb4.mono hB3.size)
    obtain ⟨q0, q1, q2, q3⟩ := hat4.c4
    clear hat3 hb4 hB3 p0 p1 p2 p3
    go_wp2_with fail
    go_loopw [44] (fun i wr => ∃ k : Nat, k ≤ nc ∧ i = .int .i64 k ∧ Below w.heap.size w wr ∧ At wr w.heap.size [.slice Ac nc cc, .slice Af nf cf, .int .i64 dry, .int .i64 days] ∧ Hid (caTo cs k)) (fun i _ => nc - (intOf i).toNat)
    case atStart => exact ⟨0, by omega, rfl, hB4, hat4, hide (caTo_zero cs)⟩
    case round =>
      clear hat4 hB4 q0 q1 q2 q3
      obtain ⟨k, hk, rfl, hB, hat, hto⟩ := hrel
      by_cases hlt : k < nc
      · obtain ⟨b, off, f, s0, s1, l0, l1, hA, hbB, hx, c0, c1, c2, c3, c4⟩ := (hnet.below hB).rc.ca (i := k) (by have := hnet.ec; omega)
        subst hA
        have Hx := hide hx
        clear hx
        have hbx0 := At.new wr #[.int .i64 f, .int .i64 s0, .int .i64 s1, .int .i64 l0, .int .i64 l1] 38 wr.heap.size rfl _ rfl
        have hbw0 := below_new wr (.cells #[.int .i64 f, .int .i64 s0, .int .i64 s1, .int .i64 l0, .int .i64 l1] 38)
        cases e1 : inB 0 k f
        all_goals have E1 := hide e1; clear e1
        · go_wp2_with fail
          refine (channel_from_one _ _ _ _ _ (by simp)).mono ?_
          rintro e w5 ⟨rfl, hb5⟩
          rw [E1.out]
          go_wp2
          go_ret
          have hbad : caAll 0 cs = false := caAll_hit Hx.out (by simp [caOk, E1.out])
          exact ⟨ret_int (by simp [netErr, netOk, hbad]), hB.trans ((hbw0.trans (hb5.mono hbw0.size)).mono hB.size)⟩
        · cases e2 : Sp.ok 0 1000 ⟨s0, s1⟩
          all_goals have E2 := hide e2; clear e2
          · go_wp2_with fail
            refine (channel_from_one _ _ _ _ _ (by simp)).mono ?_
            rintro e w5 ⟨rfl, hb5⟩
            rw [E1.out]
            have hbx5 := hbx0.below hb5
            have hbw5 := hbw0.trans (hb5.mono hbw0.size)
            obtain ⟨q0, q1, q2, q3, q4⟩ := hbx5.c5
            go_wp2_with fail
            refine (channel_proper _ _ _ _).mono ?_
            rintro e w6 ⟨rfl, hb6⟩
            rw [E2.out]
            have hbx6 := hbx5.below hb6
            have hbw6 := hbw5.trans (hb6.mono hbw5.size)
            clear q0 q1 q2 q3 q4
            obtain ⟨q0, q1, q2, q3, q4⟩ := hbx6.c5
            go_wp2
            go_ret
            have hbad : caAll 0 cs = false := caAll_hit Hx.out (by simp [caOk, E1.out, E2.out])
            exact ⟨ret_int (by simp [netErr, netOk, hbad]), hB.trans (hbw6.mono hB.size)⟩
          · cases e3 : Sp.ok 0 10000000 ⟨l0, l1⟩
            all_goals have E3 := hide e3; clear e3
            · go_wp2_with fail
              refine (channel_from_one _ _ _ _ _ (by simp)).mono ?_
              rintro e w5 ⟨rfl, hb5⟩
              rw [E1.out]
              have hbx5 := hbx0.below hb5
              have hbw5 := hbw0.trans (hb5.mono hbw0.size)
              obtain ⟨q0, q1, q2, q3, q4⟩ := hbx5.c5
              go_wp2_with fail
              refine (channel_proper _ _ _ _).mono ?_
              rintro e w6 ⟨rfl, hb6⟩
              rw [E2.out]
              have hbx6 := hbx5.below hb6
              have hbw6 := hbw5.trans (hb6.mono hbw5.size)
              clear q0 q1 q2 q3 q4
              obtain ⟨q0, q1, q2, q3, q4⟩ := hbx6.c5
              go_wp2_with fail
              refine (channel_proper _ _ _ _).mono ?_
              rintro e w7 ⟨rfl, hb7⟩
              rw [E3.out]
              have hbx7 := hbx6.below hb7
              have hbw7 := hbw6.trans (hb7.mono hbw6.size)
              clear q0 q1 q2 q3 q4
              obtain ⟨q0, q1, q2, q3, q4⟩ := hbx7.c5
              go_wp2
              go_ret
              have hbad : caAll 0 cs = false := caAll_hit Hx.out (by simp [caOk, E1.out, E2.out, E3.out])
              exact ⟨ret_int (by simp [netErr, netOk, hbad]), hB.trans (hbw7.mono hB.size)⟩
            · go_wp2_with fail
              refine (channel_from_one _ _ _ _ _ (by simp)).mono ?_
              rintro e w5 ⟨rfl, hb5⟩
              rw [E1.out]
              have hbx5 := hbx0.below hb5
              have hbw5 := hbw0.trans (hb5.mono hbw0.size)
              obtain ⟨q0, q1, q2, q3, q4⟩ := hbx5.c5
              go_wp2_with fail
              refine (channel_proper _ _ _ _).mono ?_
              rintro e w6 ⟨rfl, hb6⟩
              rw [E2.out]
              have hbx6 := hbx5.below hb6
              have hbw6 := hbw5.trans (hb6.mono hbw5.size)
              clear q0 q1 q2 q3 q4
              obtain ⟨q0, q1, q2, q3, q4⟩ := hbx6.c5
              go_wp2_with fail
              refine (channel_proper _ _ _ _).mono ?_
              rintro e w7 ⟨rfl, hb7⟩
              rw [E3.out]
              have hbx7 := hbx6.below hb7
              have hbw7 := hbw6.trans (hb7.mono hbw6.size)
              clear q0 q1 q2 q3 q4
              obtain ⟨q0, q1, q2, q3, q4⟩ := hbx7.c5
              go_wp2
              exact ⟨⟨k + 1, by omega, by go_num, hB.trans (hbw7.mono hB.size), (hat.below hbw7), hide (caTo_snoc hto.out Hx.out (by simp [caOk, E1.out, E2.out, E3.out]))⟩, by simp [intOf]; omega⟩
      · have hall : caAll 0 cs = true := caTo_all hto.out (by have := hnet.ec; omega)
        have Hall := hide hall
        have hat1 := hat.alloc (.map #[] 0)
        have hB1 := hB.trans ((below_new wr (.map #[] 0)).mono hB.size)
        obtain ⟨q0, q1, q2, q3⟩ := hat1.c4
        have hsz : w.heap.size < wr.heap.size := hat.1
        clear hall hto
        have hmm := @run_makeMap Try.prog
        have Hm := hide (Mp.made wr Try.prog 3 4 ldB)
        go_wp2_with fail
        clear hmm q0 q1 q2 q3
        obtain ⟨bm, hbm⟩ : ∃ bm, bm = wr.heap.size := ⟨_, rfl⟩
        rw [← hbm] at Hm ⊢
        have Hbm := hide hbm
        clear hbm
        obtain ⟨wo, HW1⟩ : ∃ wo, Hid (wr.alloc (.map #[] 0) = wo) := ⟨_, hide rfl⟩
        rw [HW1.out] at Hm hB1 hat1 ⊢
        go_loopw [72] (fun i wq => ∃ (k s : Nat) (f : Int → Option Bool), k ≤ nf ∧ i = .int .i64 k ∧ Below w.heap.size w wq ∧ At wq w.heap.size [.slice Ac nc cc, .slice Af nf cf, .int .i64 dry, .int .i64 days] ∧ Hid (SetTo fs k f s) ∧ Hid (Mp Try.prog 3 4 ldB wq bm k f s)) (fun i _ => nf - (intOf i).toNat)
        case atStart => exact ⟨0, 0, _, by omega, rfl, hB1, hat1, hide (SetTo.zero fs), Hm⟩
        case round =>
          clear hat1 hB1 Hm hat hB HW1
          obtain ⟨k2, s, f, hk2, rfl, hB, hat, hset, hmp⟩ := hrel
          by_cases hlt2 : k2 < nf
          · obtain ⟨b, off, x, hA, hbB, hx, c0⟩ := (hnet.below hB).rf.int (i := k2) (by have := hnet.ef; omega)
            subst hA
            have Hx := hide hx
            clear hx
            have hxr : okI x := by
              have := Hp.out
              simp only [Bool.and_eq_true, Bool.not_eq_true', anyOut, List.any_eq_false] at this
              have := this.2 x (List.mem_of_getElem? Hx.out)
              simp [outB] at this
              have := hnet.ec
              unfold okI
              omega
            have Hxr := hide hxr; clear hxr
            go_wp2_with (at_mapUpdate; refine wpList_mapWrite rfl _ _ _ rfl mapB hmp.out (by omega) rfl x rfl Hxr.out true rfl trivial ?_; intro w5 hmp5 hg5)
            have hbb := Hbm.out
            exact ⟨⟨k2 + 1, _, _, by omega, by go_num, hB.grown hg5 hB.size (fun g hg => by injection hg with hg; omega), hat.kept (Kept.grown hg5) (by simp; omega), hide (hset.out.snoc Hx.out), hide hmp5⟩, by simp [intOf]; omega⟩
          · obtain ⟨q0, q1, q2, q3⟩ := hat.c4
            have hkn : k2 = fs.length := by have := hnet.ef; omega
            have hs1 := hset.out.eq
            rw [hkn, List.take_length] at hs1
            have hfin : netErr cs fs dry days = if s = fs.length then 0 else 50 := by
              have h1 := Hp.out
              have h2 := Hall.out
              have h3 : netOk cs fs dry days = decide fs.Nodup := by
                simp only [netOk]
                rw [h2, Bool.and_true, h1, Bool.true_and]
              unfold netErr
              rw [h3]
              by_cases hd : fs.Nodup
              · rw [if_pos (hs1.2 hd)]; simp [hd]
              · rw [if_neg (fun e => hd (hs1.1 e))]; simp [hd]
            have Hfin := hide hfin
            have hs2 : s = nf ∨ s ≠ nf := by omega
            have Hef := hide hnet.ef
            clear hfin hs1 hkn hset
            rcases hs2 with hs2 | hs2
            · subst hs2
              go_wp2_with (at_len; refine wpList_mapLen rfl _ rfl mapB hmp.out rfl ?_)
              go_ret
              exact ⟨ret_int (by rw [Hfin.out, if_pos Hef.out]), hB⟩
            · have t1 : ((s : Int) != (nf : Int)) = true := by simp; omega
              have t2 : ((s : Int) == (nf : Int)) = false := by simp; omega
              have Hs2 := hide hs2
              clear hs2
              go_wp2_with (at_len; refine wpList_mapLen rfl _ rfl mapB hmp.out rfl ?_)
              go_ret
              exact ⟨ret_int (by rw [Hfin.out, if_neg (fun e => Hs2.out (e.trans Hef.out.symm))]), hB⟩
end Go.Proofs.Ythlnbgjlkliopaa
