/- The reference of channel: Order, by contract. -/
import Derived.Test.YtgklcilpohkpkaaRO1
import Derived.Test.YtgklcilpohkpkaaWR2
import Derived.Test.YtgklcilpohkpkaaO6
set_option linter.unusedVariables false
set_option linter.unusedSimpArgs false
namespace Go.Proofs.Ytgklcilpohkpkaa
open Go.RowKit Go.Shelf
attribute [local go_sem ↓] Go.wp_at_zero Go.wp_at_succ
attribute [local go_sem] Oper.semAt_some
theorem pow_bd {n i : Nat} (hn : n ≤ 6) (hi : i ≤ n) : n ^ i ≤ 46656 := by
  have h1 : n ^ i ≤ 6 ^ i := Nat.pow_le_pow_left hn i
  have h2 : (6 : Nat) ^ i ≤ 6 ^ 6 := Nat.pow_le_pow_right (by omega) (by omega)
  have : (6 : Nat) ^ 6 = 46656 := by decide
  omega
theorem made_ints (n : Nat) : (madeCells #[.int .i64 0] (n * 1)).toList = (List.replicate n (0 : Int)).flatMap icell := by
  apply List.ext_getElem?
  intro j
  by_cases hj : j < n
  · have hx : (List.replicate n (0 : Int))[j]? = some 0 := by rw [List.getElem?_replicate, if_pos hj]
    have h := flat_get icell_len hx (j := 0) (by omega)
    simp only [Nat.mul_one, Nat.add_zero] at h
    rw [h]
    simp [madeCells, hj, icell, Nat.mod_one]
  · rw [List.getElem?_eq_none (by simp [madeCells]; omega), List.getElem?_eq_none (by rw [flat_len icell_len]; simp; omega)]
theorem make_ints (n : Nat) (hn : n ≤ 1000) (w : World) : (Instr.makeSlice 23 (.int .i64 (n : Int)) (.int .i64 (n : Int))).run Try.prog w = .ok (.slice (some ⟨w.heap.size, 0, none⟩) n n) (w.alloc (.cells (madeCells #[.int .i64 0] (n * 1)) 3)) := by
  obtain ⟨i, hi, hz, hs, hbt⟩ : ∃ i, Try.prog.info? 3 = some i ∧ i.zero = some (.int .i64 0) ∧ i.size = 1 ∧ i.bytes = 8 := by
    have h : (Try.prog.info? 3).map (fun i => (i.zero, i.size, i.bytes)) = some (some (.int .i64 0), 1, 8) := by kernel_rfl
    obtain ⟨i, hi, hzz⟩ := Option.map_eq_some_iff.1 h
    simp only [Prod.mk.injEq] at hzz
    exact ⟨i, hi, hzz.1, hzz.2.1, hzz.2.2⟩
  have hrun := run_make (P := Try.prog) w 23 3 i (.int .i64 0) Try.underlying23 hi hz .i64 .i64 n n (by omega) (Int.le_refl _) (by rw [hbt]; omega) (by omega)
  simp only [Int.toNat_natCast, hs] at hrun
  exact hrun
theorem own_made (n : Nat) (hn : n ≤ 1000) (w : World) (base : Nat) (hb : base ≤ w.heap.size) : Own (w.alloc (.cells (madeCells #[.int .i64 0] (n * 1)) 3)) base 3 1 icell (.slice (some ⟨w.heap.size, 0, none⟩) n n) (List.replicate n 0) := by
  have h := Own.lit (cells := icell) w 3 1 (madeCells #[.int .i64 0] (n * 1)) (List.replicate n 0) icell_len (made_ints n) (by simp; omega) base hb
  rw [List.length_replicate] at h
  exact h
theorem digs_lt (k : Nat) (hk : 0 < k) : ∀ t w, ∀ x ∈ digsO k t w, x < k
  | 0, _, x, hx => by simp [digsO] at hx
  | t + 1, w, x, hx => by
    simp only [digsO, List.mem_cons] at hx
    rcases hx with rfl | hx
    · exact Nat.mod_lt _ hk
    · exact digs_lt k hk t w x hx
theorem w64_nat (q : Nat) (h : q ≤ 46656) : wrap64 (q : Int) = (q : Int) := w64 (by omega)
theorem set_zeros (d : Int) (D : List Int) : ∀ m, (List.replicate (m + 1) (0 : Int) ++ D).set m d = List.replicate m 0 ++ d :: D
  | 0 => rfl
  | m + 1 => by
    rw [List.replicate_succ, List.cons_append, List.set_cons_succ, set_zeros d D m, List.replicate_succ, List.cons_append]
theorem mem_ints (d : Nat) (D : List Nat) : ((d : Int) ∈ ints D) ↔ d ∈ D := by
  unfold ints
  rw [List.mem_map]
  constructor
  · rintro ⟨k, hk, e⟩
    have : k = d := by omega
    exact this ▸ hk
  · intro h; exact ⟨d, h, rfl⟩
set_option maxHeartbeats 4000000 in
set_option maxRecDepth 100000 in
theorem rOrder_fn (Ac Af Aff Am : Option Addr) (nc cc nf cf nk cff nm cm : Nat) (dry days a b : Int) (cs : List Ca) (fs fl ml : List Int) (w : World) (hnet : NetAt w Ac Af nc nf cs fs) (hf : Rd w w.heap.size icell Aff fl) (hm : Rd w w.heap.size icell Am ml) (hnk : nk = fl.length) (hnm : nm = ml.length) (hk2 : nk ≤ 100) (hm2 : nm ≤ 100) :
    Calls Try.prog 35 #[.agg #[.slice Ac nc cc, .slice Af nf cf, .int .i64 dry, .int .i64 days], .agg #[.int .i64 a, .int .i64 b], .slice Aff nk cff, .slice Am nm cm] w fun e w' => ∃ v, e = .returned (.tuple #[v, .int .i64 (orderS cs fs dry days a b fl ml).1.2, .int .i64 (orderS cs fs dry days a b fl ml).2]) ∧
      Own w' w.heap.size 3 1 icell v (orderS cs fs dry days a b fl ml).1.1 ∧ Below w.heap.size w w' := by
  have hat0 := (At.new w #[.slice Ac nc cc, .slice Af nf cf, .int .i64 dry, .int .i64 days] 25 w.heap.size rfl _ rfl).alloc (.cells #[.int .i64 a, .int .i64 b] 51)
  have hat1 := At.new (w.alloc (.cells #[.slice Ac nc cc, .slice Af nf cf, .int .i64 dry, .int .i64 days] 25)) #[.int .i64 a, .int .i64 b] 51 (w.heap.size + 1) (by simp) _ rfl
  have hB0 := (below_new w (.cells #[.slice Ac nc cc, .slice Af nf cf, .int .i64 dry, .int .i64 days] 25)).alloc (by simp) (.cells #[.int .i64 a, .int .i64 b] 51)
  have hnf2 := hnet.nf2
  have Hf := hide hf; have Hm := hide hm; have Hnk := hide hnk; have Hnm := hide hnm; have Hnet := hide hnet
  clear hf hm hnk hnm hnet
  cases hok : netOk cs fs dry days
  · have he : netErr cs fs dry days = 50 := by simp [netErr, hok]
    have hs : orderS cs fs dry days a b fl ml = (([], 0), 50) := by unfold orderS; simp [hok]
    rw [hs]
    have He := hide he
    clear he hs hok
    go_enter Try.func35, Try.ntmps35
    go_wp2_with fail
    refine calls_gen fun W1 HW1 => ?_
    rw [HW1.out] at hat0 hat1 hB0
    refine (rCheck_any Ac Af nc cc nf cf dry days cs fs W1 (Hnet.out.below hB0)).mono ?_
    rintro e w2 ⟨rfl, hb2⟩
    rw [He.out]
    go_wp2
    go_ret3
    exact ⟨_, rfl, Own.nil _ _ _ _ _, hB0.trans (hb2.mono hB0.size)⟩
  have he : netErr cs fs dry days = 0 := by simp [netErr, hok]
  have hdy := (netOk_parts hok).2.2.2.1
  have He := hide he
  clear he
  cases hsp : Sp.ok 0 13000000 ⟨a, b⟩
  · have hs : orderS cs fs dry days a b fl ml = (([], 0), 21) := by unfold orderS; simp [hok, hsp]
    rw [hs]
    have Hsp := hide hsp
    clear hs hok hsp
    go_enter Try.func35, Try.ntmps35
    go_wp2_with fail
    refine calls_gen fun W1 HW1 => ?_
    rw [HW1.out] at hat0 hat1 hB0
    refine (rCheck_any Ac Af nc cc nf cf dry days cs fs W1 (Hnet.out.below hB0)).mono ?_
    rintro e w2 ⟨rfl, hb2⟩
    rw [He.out]
    obtain ⟨p0, p1⟩ := (hat1.below hb2).c2
    go_wp2_with fail
    refine (rFlows_any a b w2).mono ?_
    rintro e w3 ⟨rfl, hb3⟩
    rw [Hsp.out]
    go_wp2
    go_ret3
    exact ⟨_, rfl, Own.nil _ _ _ _ _, hB0.trans ((hb2.trans (hb3.mono hb2.size)).mono hB0.size)⟩
  have hs : orderS cs fs dry days a b fl ml = (if 6 < fl.length then (([], 0), 4) else (if turnsOk nf (days * 1440) fl ml then ((ints (dfsO (valO cs fs dry (days * 1440) a b fl ml) fl.length fl.length [] ([], -1)).1, (dfsO (valO cs fs dry (days * 1440) a b fl ml) fl.length fl.length [] ([], -1)).2), 0) else (([], 0), 52))) := by
    unfold orderS; rw [hok, hsp, Hnet.out.ef]; rfl
  rw [hs]
  have Hsp := hide hsp; have Hok := hide hok
  clear hs hok hsp
  by_cases h6 : 6 < nk
  · rw [if_pos (by rw [← Hnk.out]; exact h6)]
    go_enter Try.func35, Try.ntmps35
    go_wp2_with fail
    refine calls_gen fun W1 HW1 => ?_
    rw [HW1.out] at hat0 hat1 hB0
    refine (rCheck_any Ac Af nc cc nf cf dry days cs fs W1 (Hnet.out.below hB0)).mono ?_
    rintro e w2 ⟨rfl, hb2⟩
    rw [He.out]
    obtain ⟨p0, p1⟩ := (hat1.below hb2).c2
    go_wp2_with fail
    refine (rFlows_any a b w2).mono ?_
    rintro e w3 ⟨rfl, hb3⟩
    rw [Hsp.out]
    go_wp2
    go_ret3
    exact ⟨_, rfl, Own.nil _ _ _ _ _, hB0.trans ((hb2.trans (hb3.mono hb2.size)).mono hB0.size)⟩
  rw [if_neg (by rw [← Hnk.out]; exact h6)]
  have hk6 : nk ≤ 6 := by omega
  clear h6
  cases htn : turnsOk nf (days * 1440) fl ml
  all_goals
    have Htn := hide htn
    clear htn
    try simp only [Bool.false_eq_true, if_false, if_true]
    refine (callsIn_wide (n := 9)).1 ?_
    refine callsIn_of_wp Try.func35 rfl trivial ?_ rfl
    simp only [Try.ntmps35, List.size_toArray, List.length_cons, List.length_nil, Nat.reduceAdd, Nat.reduceSub, Array.replicate_succ, Array.replicate_zero, List.push_toArray, List.append_toArray, List.nil_append, List.cons_append]
    gi_wp2_with fail
    refine wcall ?_
    refine calls_gen fun W1 HW1 => ?_
    rw [HW1.out] at hat0 hat1 hB0
    refine (rCheck_any Ac Af nc cc nf cf dry days cs fs W1 (Hnet.out.below hB0)).mono ?_
    rintro e w2 ⟨rfl, hb2⟩
    rw [He.out]
    obtain ⟨p0, p1⟩ := (hat1.below hb2).c2
    gi_wp2_with fail
    refine wcall ((rFlows_any a b w2).mono ?_)
    rintro e w3 ⟨rfl, hb3⟩
    rw [Hsp.out]
    have hb23 := hb2.trans (hb3.mono hb2.size)
    have hat2 := hat0.below hb23
    have hat3 := hat1.below hb23
    have hB3 := hB0.trans (hb23.mono hB0.size)
    obtain ⟨q0, q1, q2, q3⟩ := hat2.c4
    clear hat0 hat1 hB0 hb2 hb3 hb23 p0 p1
    gi_wp2_with fail
    refine wcall ((rTurns_any Ac Af Aff Am nc cc nf cf nk cff nm cm dry days fl ml w3 ((Hf.out.below hB3).more hB3.size) ((Hm.out.below hB3).more hB3.size) Hnk.out Hnm.out hk2 hm2 hnf2 hdy.1 hdy.2).mono ?_)
    rintro e w4 ⟨rfl, hb4⟩
    rw [Htn.out]
    have hat4 := hat2.below hb4
    have hat5 := hat3.below hb4
    have hB4 := hB3.trans (hb4.mono hB3.size)
    clear q0 q1 q2 q3 hat2 hat3 hB3 hb4
  · gi_wp2_with fail
    go_ret3
    exact ⟨_, rfl, Own.nil _ _ _ _ _, hB4⟩
  · have hmk : nk = nm := by
      have h1 := (turnsOk_iff.1 Htn.out).1
      rw [← Hnk.out, ← Hnm.out] at h1
      exact h1
    subst hmk
    gi_wp2_with fail
    refine wpIn_loop_rounds (nk + 1) (rounds_of (fun r a1 wr => ∃ (i : Nat) (Z : Nat), i + r = nk + 1 ∧ i ≤ nk ∧ Z = nk ^ i ∧ a1.tmps.size = 103 ∧ a1.defers = [] ∧ slot a1 2 = .slice Aff nk cff ∧ slot a1 3 = .slice Am nk cm ∧ slot a1 4 = .pointer (some ⟨w.heap.size, 0, none⟩) ∧ slot a1 5 = .pointer (some ⟨w.heap.size + 1, 0, none⟩) ∧ slot a1 11 = .int .i64 nk ∧ slot a1 12 = .int .i64 Z ∧ slot a1 13 = .int .i64 i ∧ w4 = wr) ?_ ?_ (nk + 1) _ _ ⟨0, 1, by omega, by omega, rfl, by first | rfl | trivial, by first | rfl | trivial, by first | rfl | trivial, by first | rfl | trivial, by first | rfl | trivial, by first | rfl | trivial, by first | rfl | trivial, by first | rfl | trivial, by first | rfl | trivial, rfl⟩)
    · rintro a wr ⟨i, Z, hi, hi2, _⟩
      omega
    · rintro r a1 wr ⟨i, Z, hir, hi, hZ, hs, hd, s2, s3, s4, s5, s11, s12, s13, rfl⟩
      rw [act_eq hs hd]
      obtain ⟨u, hu⟩ : ∃ u, u = slot a1 := ⟨_, rfl⟩
      rw [← hu] at s2 s3 s4 s5 s11 s12 s13 ⊢
      have he : ({ tmps := ((List.range 103).map u).toArray, defers := [] } : Act) = { tmps := #[(u 0), (u 1), (u 2), (u 3), (u 4), (u 5), (u 6), (u 7), (u 8), (u 9), (u 10), (u 11), (u 12), (u 13), (u 14), (u 15), (u 16), (u 17), (u 18), (u 19), (u 20), (u 21), (u 22), (u 23), (u 24), (u 25), (u 26), (u 27), (u 28), (u 29), (u 30), (u 31), (u 32), (u 33), (u 34), (u 35), (u 36), (u 37), (u 38), (u 39), (u 40), (u 41), (u 42), (u 43), (u 44), (u 45), (u 46), (u 47), (u 48), (u 49), (u 50), (u 51), (u 52), (u 53), (u 54), (u 55), (u 56), (u 57), (u 58), (u 59), (u 60), (u 61), (u 62), (u 63), (u 64), (u 65), (u 66), (u 67), (u 68), (u 69), (u 70), (u 71), (u 72), (u 73), (u 74), (u 75), (u 76), (u 77), (u 78), (u 79), (u 80), (u 81), (u 82), (u 83), (u 84), (u 85), (u 86), (u 87), (u 88), (u 89), (u 90), (u 91), (u 92), (u 93), (u 94), (u 95), (u 96), (u 97), (u 98), (u 99), (u 100), (u 101), (u 102)], defers := [] } := rfl
      rw [he, s2, s3, s4, s5, s11, s12, s13]
      clear he hs hd hu s2 s3 s4 s5 s11 s12 s13
      have hZ1 : Z ≤ 46656 := by rw [hZ]; exact pow_bd hk6 hi
      have HZ := hide hZ
      clear hZ
      by_cases hlt : i < nk
      · have hpr : (0 : Int) ≤ (Z : Int) * (nk : Int) ∧ (Z : Int) * (nk : Int) ≤ 46656 := by
          have h2 : Z * nk ≤ 46656 := by
            rw [HZ.out, ← Nat.pow_succ]; exact pow_bd hk6 (by omega)
          refine ⟨Int.mul_nonneg (by omega) (by omega), ?_⟩
          rw [← Int.natCast_mul]; omega
        obtain ⟨hp0, hp1⟩ := hpr
        gi_wp2_with fail
        refine ⟨i + 1, Z * nk, by omega, by omega, by rw [HZ.out, Nat.pow_succ], by first | rfl | trivial, by first | rfl | trivial, by first | rfl | trivial, by first | rfl | trivial, by first | rfl | trivial, by first | rfl | trivial, by first | rfl | trivial, by show Value.int _ _ = Value.int _ _; rw [Int.natCast_mul], by first | rfl | (show Value.int _ _ = Value.int _ _; rw [Int.natCast_add]; rfl), by first | rfl | trivial⟩
      · obtain rfl : nk = i := by omega
        have h4s : w.heap.size + 1 < w4.heap.size := hat5.1
        gi_wp2_with fail
        refine wpIn_loop_rounds (Z + 1) (rounds_of (fun r a1 wr => ∃ (wd : Nat) (vB : Value) (mo : Int), wd + r = Z + 1 ∧ wd ≤ Z ∧ a1.tmps.size = 103 ∧ a1.defers = [] ∧ slot a1 2 = .slice Aff nk cff ∧ slot a1 3 = .slice Am nk cm ∧ slot a1 4 = .pointer (some ⟨w.heap.size, 0, none⟩) ∧ slot a1 5 = .pointer (some ⟨w.heap.size + 1, 0, none⟩) ∧ slot a1 11 = .int .i64 nk ∧ slot a1 12 = .int .i64 Z ∧ slot a1 14 = vB ∧ slot a1 15 = .int .i64 mo ∧ slot a1 16 = .int .i64 wd ∧ mo = (wordsTo (valO cs fs dry (days * 1440) a b fl ml) nk wd).2 ∧ Own wr (w.heap.size + 1 + 1) 3 1 icell vB (ints (wordsTo (valO cs fs dry (days * 1440) a b fl ml) nk wd).1) ∧ At wr w.heap.size [.slice Ac nc cc, .slice Af nf cf, .int .i64 dry, .int .i64 days] ∧ At wr (w.heap.size + 1) [.int .i64 a, .int .i64 b] ∧ Below w.heap.size w wr) ?_ ?_ (Z + 1) _ _ ⟨0, _, -1, by omega, by omega, by first | rfl | trivial, by first | rfl | trivial, by first | rfl | trivial, by first | rfl | trivial, by first | rfl | trivial, by first | rfl | trivial, by first | rfl | trivial, by first | rfl | trivial, by first | rfl | trivial, by first | rfl | trivial, by first | rfl | trivial, rfl, Own.nil _ _ _ _ _, hat4, hat5, hB4⟩)
        · rintro a wr ⟨wd, vB, mo, hi, hi2, _⟩
          omega
        · clear hat4 hat5 hB4
          rintro r2 a2 wr ⟨wd, vB, mo, hwr, hwd, hs, hd, s2, s3, s4, s5, s11, s12, s14, s15, s16, hmo, hown, hn, hfl, hB⟩
          rw [act_eq hs hd]
          obtain ⟨u, hu⟩ : ∃ u, u = slot a2 := ⟨_, rfl⟩
          rw [← hu] at s2 s3 s4 s5 s11 s12 s14 s15 s16 ⊢
          have he : ({ tmps := ((List.range 103).map u).toArray, defers := [] } : Act) = { tmps := #[(u 0), (u 1), (u 2), (u 3), (u 4), (u 5), (u 6), (u 7), (u 8), (u 9), (u 10), (u 11), (u 12), (u 13), (u 14), (u 15), (u 16), (u 17), (u 18), (u 19), (u 20), (u 21), (u 22), (u 23), (u 24), (u 25), (u 26), (u 27), (u 28), (u 29), (u 30), (u 31), (u 32), (u 33), (u 34), (u 35), (u 36), (u 37), (u 38), (u 39), (u 40), (u 41), (u 42), (u 43), (u 44), (u 45), (u 46), (u 47), (u 48), (u 49), (u 50), (u 51), (u 52), (u 53), (u 54), (u 55), (u 56), (u 57), (u 58), (u 59), (u 60), (u 61), (u 62), (u 63), (u 64), (u 65), (u 66), (u 67), (u 68), (u 69), (u 70), (u 71), (u 72), (u 73), (u 74), (u 75), (u 76), (u 77), (u 78), (u 79), (u 80), (u 81), (u 82), (u 83), (u 84), (u 85), (u 86), (u 87), (u 88), (u 89), (u 90), (u 91), (u 92), (u 93), (u 94), (u 95), (u 96), (u 97), (u 98), (u 99), (u 100), (u 101), (u 102)], defers := [] } := rfl
          rw [he, s2, s3, s4, s5, s11, s12, s14, s15, s16]
          clear he hs hd hu s2 s3 s4 s5 s11 s12 s14 s15 s16
          have HOwn := hide hown; have HMo := hide hmo; have HN := hide hn; have HFl := hide hfl; have HB := hide hB
          clear hown hmo hn hfl hB
          by_cases hwlt : wd < Z
          · have w0 : (wd : Int) < (Z : Int) := by omega
            gi_wp2_with fail
            rw [make_ints nk (by omega)]
            have hb1 := below_new wr (.cells (madeCells #[.int .i64 0] (nk * 1)) 3)
            have ho1 := own_made nk (by omega) wr (w.heap.size + 1 + 1) (Nat.le_trans (Nat.succ_le_of_lt HFl.out.1) (Nat.le_refl _))
            obtain ⟨w1, Hw1⟩ : ∃ w1, Hid (wr.alloc (.cells (madeCells #[.int .i64 0] (nk * 1)) 3) = w1) := ⟨_, hide rfl⟩
            rw [Hw1.out] at hb1 ho1 ⊢
            have hown1 := HOwn.out.below hb1
            have HO1 := hide ho1; have HOwn1 := hide hown1; have Hb1 := hide hb1
            clear ho1 hown1 hb1
            gi_wp2_with fail
            have hgs1 : wr.heap.size < w1.heap.size := (own_block HO1.out (g := wr.heap.size) rfl).2
            refine wpIn_loop_rounds (nk + 1) (rounds_of (fun r a1 wq => ∃ (t rs : Nat) (tw : Bool) (ix : Int), t + r = nk + 1 ∧ t ≤ nk ∧ a1.tmps.size = 103 ∧ a1.defers = [] ∧ slot a1 2 = .slice Aff nk cff ∧ slot a1 3 = .slice Am nk cm ∧ slot a1 4 = .pointer (some ⟨w.heap.size, 0, none⟩) ∧ slot a1 5 = .pointer (some ⟨w.heap.size + 1, 0, none⟩) ∧ slot a1 11 = .int .i64 nk ∧ slot a1 12 = .int .i64 Z ∧ slot a1 14 = vB ∧ slot a1 15 = .int .i64 mo ∧ slot a1 16 = .int .i64 wd ∧ slot a1 17 = .slice (some ⟨wr.heap.size, 0, none⟩) nk nk ∧ slot a1 18 = .int .i64 (rs : Nat) ∧ slot a1 19 = .bool tw ∧ slot a1 20 = .int .i64 ix ∧ ix = (nk : Int) - 1 - t ∧ rs = wd / nk ^ t ∧ tw = !decide (digsO nk t wd).Nodup ∧ Own wq (w.heap.size + 1 + 1) 3 1 icell (.slice (some ⟨wr.heap.size, 0, none⟩) nk nk) (List.replicate (nk - t) 0 ++ ints (digsO nk t wd)) ∧ Kept (fun x => x ≠ wr.heap.size) w1 wq) ?_ ?_ (nk + 1) _ _ ⟨0, wd, false, (nk : Int) - 1, by omega, by omega, by first | rfl | trivial, by first | rfl | trivial, by first | rfl | trivial, by first | rfl | trivial, by first | rfl | trivial, by first | rfl | trivial, by first | rfl | trivial, by first | rfl | trivial, by first | rfl | trivial, by first | rfl | trivial, by first | rfl | trivial, by first | rfl | trivial, by first | rfl | trivial, by first | rfl | trivial, by first | rfl | trivial, by omega, by simp, by simp [digsO], by simpa [digsO, ints] using HO1.out, Kept.refl _ _⟩)
            · rintro a wr ⟨t, rs, tw, ix, hi, hi2, _⟩
              omega
            · clear HO1
              rintro r3 a3 wq ⟨t, rs, tw, ix, htr, ht, hs, hd, s2, s3, s4, s5, s11, s12, s14, s15, s16, s17, s18, s19, s20, hix, hrs, htw, hown, hKq⟩
              rw [act_eq hs hd]
              obtain ⟨u, hu⟩ : ∃ u, u = slot a3 := ⟨_, rfl⟩
              rw [← hu] at s2 s3 s4 s5 s11 s12 s14 s15 s16 s17 s18 s19 s20 ⊢
              have he : ({ tmps := ((List.range 103).map u).toArray, defers := [] } : Act) = { tmps := #[(u 0), (u 1), (u 2), (u 3), (u 4), (u 5), (u 6), (u 7), (u 8), (u 9), (u 10), (u 11), (u 12), (u 13), (u 14), (u 15), (u 16), (u 17), (u 18), (u 19), (u 20), (u 21), (u 22), (u 23), (u 24), (u 25), (u 26), (u 27), (u 28), (u 29), (u 30), (u 31), (u 32), (u 33), (u 34), (u 35), (u 36), (u 37), (u 38), (u 39), (u 40), (u 41), (u 42), (u 43), (u 44), (u 45), (u 46), (u 47), (u 48), (u 49), (u 50), (u 51), (u 52), (u 53), (u 54), (u 55), (u 56), (u 57), (u 58), (u 59), (u 60), (u 61), (u 62), (u 63), (u 64), (u 65), (u 66), (u 67), (u 68), (u 69), (u 70), (u 71), (u 72), (u 73), (u 74), (u 75), (u 76), (u 77), (u 78), (u 79), (u 80), (u 81), (u 82), (u 83), (u 84), (u 85), (u 86), (u 87), (u 88), (u 89), (u 90), (u 91), (u 92), (u 93), (u 94), (u 95), (u 96), (u 97), (u 98), (u 99), (u 100), (u 101), (u 102)], defers := [] } := rfl
              rw [he, s2, s3, s4, s5, s11, s12, s14, s15, s16, s17, s18, s19, s20]
              clear he hs hd hu s2 s3 s4 s5 s11 s12 s14 s15 s16 s17 s18 s19 s20
              have HRs := hide hrs; have HTw := hide htw; have HOq := hide hown; have HKq := hide hKq
              clear hrs htw hown hKq
              by_cases htlt : t < nk
              · obtain ⟨j, hj⟩ : ∃ j : Nat, j + t + 1 = nk := ⟨nk - 1 - t, by omega⟩
                obtain rfl : ix = (j : Int) := by omega
                obtain ⟨D, hD⟩ : ∃ D, D = digsO nk t wd := ⟨_, rfl⟩
                have hDl : D.length = t := by rw [hD]; exact digsO_len nk t wd
                have hown := HOq.out
                have htwo := HTw.out
                rw [← hD] at hown htwo
                rw [show nk - t = j + 1 from by omega] at hown
                have hxj : (List.replicate (j + 1) (0 : Int) ++ ints D)[j]? = some 0 := by
                  rw [List.getElem?_append_left (by simp)]; simp
                have hlen : nk = (List.replicate (j + 1) (0 : Int) ++ ints D).length := by simp [ints, hDl]; omega
                obtain ⟨ho2, ⟨vz, hz⟩, hfz⟩ := hown.put_ icell_len (i := j) (j := 0) (x := 0) (x' := ((rs % nk : Nat) : Int)) (u := .int .i64 ((rs % nk : Nat) : Int)) hxj (by omega) rfl hlen
                rw [Nat.mul_one, Nat.add_zero] at ho2 hz hfz
                rw [set_zeros] at ho2
                have hnz : (nk : Int) ≠ 0 := by omega
                have hnz2 : ((nk : Int) == 0) = false := by simp; omega
                have htm : (rs : Int).tmod (nk : Int) = ((rs % nk : Nat) : Int) := by rw [Int.tmod_eq_emod_of_nonneg (by omega)]; rfl
                have htd : (rs : Int).tdiv (nk : Int) = ((rs / nk : Nat) : Int) := by rw [Int.tdiv_eq_ediv_of_nonneg (by omega)]; rfl
                have hrsb : rs ≤ 46656 := by rw [HRs.out]; exact Nat.le_trans (Nat.div_le_self _ _) (by omega)
                have hmodb : rs % nk ≤ 46656 := Nat.le_trans (Nat.mod_le _ _) hrsb
                have hdivb : rs / nk ≤ 46656 := Nat.le_trans (Nat.div_le_self _ _) hrsb
                have j0 : (0 : Int) ≤ (j : Int) := by omega
                have j1 : (j : Int) < (nk : Int) := by omega
                have Hj := hide hj; have HD := hide hD; have HDl := hide hDl; have HTwo := hide htwo; have HO2 := hide ho2
                clear hown htwo hxj hlen hj hD hDl ho2 hix HTw HOq
                gi_wp2_with fail
                rw [show wrap64 ((rs : Int) / (nk : Int)) = ((rs / nk : Nat) : Int) from w64_nat _ hdivb, show (rs : Int) % (nk : Int) = ((rs % nk : Nat) : Int) from rfl]
                obtain ⟨wS, HwS⟩ : ∃ wS, Hid (wq.setCell ⟨wr.heap.size, j, none⟩ (.int .i64 ((rs % nk : Nat) : Int)) = wS) := ⟨_, hide rfl⟩
                have hkS : Kept (fun x => x ≠ wr.heap.size) wq wS := by rw [← HwS.out]; exact Kept.setCell wq ⟨wr.heap.size, j, none⟩ _
                have hoS := HO2.out
                rw [HwS.out] at hoS ⊢
                have hgS : wr.heap.size < wS.heap.size := (own_block hoS (g := wr.heap.size) rfl).2
                have hcell := hoS.rdv.2
                have cS : wS.cell? ⟨wr.heap.size, j, none⟩ = some (.int .i64 ((rs % nk : Nat) : Int)) := by
                  obtain ⟨b, off, x, hA, hbb, hx, hc⟩ := hcell.int (i := j) (by simp)
                  injection hA with hA
                  injection hA with e1 e2
                  subst e1 e2
                  rw [List.getElem?_append_right (by simp)] at hx
                  have hx2 : ((rs % nk : Nat) : Int) = x := by simpa using hx
                  rw [Nat.zero_add] at hc
                  rw [hx2]
                  exact hc
                have hdig : digsO nk (t + 1) wd = (rs % nk) :: D := by
                  show (wd / nk ^ t) % nk :: digsO nk t wd = _
                  rw [← HRs.out, ← HD.out]
                have hrs2 : rs / nk = wd / nk ^ (t + 1) := by rw [HRs.out, Nat.pow_succ, Nat.div_div_eq_div_mul]
                have hzr : nk - (t + 1) = j := by have := Hj.out; omega
                have hoF : Own wS (w.heap.size + 1 + 1) 3 1 icell (.slice (some ⟨wr.heap.size, 0, none⟩) nk nk) (List.replicate (nk - (t + 1)) 0 ++ ints (digsO nk (t + 1) wd)) := by
                  rw [hdig, hzr]; exact hoS
                have HOF := hide hoF; have Hdig := hide hdig; have Hrs2 := hide hrs2; have HKS := hide (HKq.out.trans hkS)
                clear hoS hcell hdig hrs2 hzr hoF hkS HO2 hz hfz htm htd
                cases tw
                · have hnd : D.Nodup := by have := HTwo.out; simpa using this.symm
                  have hDs : (ints D).length = t := by rw [ints_len, HDl.out]
                  have hjn := Hj.out
                  have hRd : ∀ (A : Option Addr) (W : World), (t ≠ 0 → A = some ⟨wr.heap.size, j + 1, none⟩) → Below wS.heap.size wS W → Rd W W.heap.size icell A (ints D) := by
                    intro A W hA hW hpos
                    have ht0 : t ≠ 0 := by omega
                    have hgW : wr.heap.size < W.heap.size := Nat.lt_of_lt_of_le hgS hW.size
                    refine ⟨wr.heap.size, j + 1, hA ht0, hgW, fun j2 v hv => ?_⟩
                    have hcell := (HOF.out.below hW).rdv.2
                    obtain ⟨b, off, hA2, _, hc⟩ := hcell (by simp [Hdig.out, ints]; omega)
                    injection hA2 with hA2
                    injection hA2 with e1 e2
                    subst e1 e2
                    have h1 := hc (j + 1 + j2) v (by
                      rw [List.flatMap_append, List.getElem?_append_right (by rw [flat_len icell_len]; simp; omega), flat_len icell_len, List.length_replicate, Hdig.out]
                      show ((ints (rs % nk :: D)).flatMap icell)[_]? = _
                      rw [show j + 1 + j2 - (nk - (t + 1)) * 1 = j2 + 1 from by omega]
                      show ((icell _ ++ (ints D).flatMap icell))[j2 + 1]? = _
                      rw [List.getElem?_append_right (by simp [icell])]
                      simpa [icell] using hv)
                    rw [Nat.zero_add] at h1
                    exact h1
                  have HRd := hide hRd
                  clear hRd
                  have hfin : ∀ (tv : Bool) (W : World), Hid (decide (((rs % nk : Nat) : Int) ∈ ints D) = tv) → tv = !decide (digsO nk (t + 1) wd).Nodup := by
                    intro tv W h
                    rw [← h.out, Hdig.out]
                    by_cases hm : rs % nk ∈ D
                    · rw [decide_eq_true ((mem_ints _ _).2 hm)]
                      simp [hm]
                    · rw [decide_eq_false (fun h => hm ((mem_ints _ _).1 h))]
                      simp [hm, hnd]
                  have Hfin := hide hfin
                  clear hfin hjn
                  by_cases hjk : nk = j + 1
                  · have Hjk := hide hjk
                    clear hjk
                    refine wpIn_region_S (S := (fun W => Below wS.heap.size wS W)) (z := 13) (by kernel_rfl) (by (try dsimp only); exact (Below.refl _ _).drew) (fun hHeld => ?_)
                    generalize World.drew wS = Wd at hHeld ⊢
                    refine wpAnyS_take (i := 0) (oi := ⟨_, _, _, _, _, _⟩) (v := ?_) rfl (fun _ => trivial) (by kernel_rfl) (by kernel_rfl) (by kernel_rfl) (by kernel_rfl) (fun _ _ _ h => h) (Or.inl ⟨by rfl, ?_⟩) hHeld ?_
                    rotate_left
                    · (intro w hSw; (try dsimp only at hSw); go_simp; try (with_reducible rfl))
                    try simp only [Act.put, List.setIfInBounds_toArray, List.set_cons_zero, List.set_cons_succ]
                    refine wpAnyS_take (i := 1) (oi := ⟨_, _, _, _, _, _⟩) (v := ?_) rfl (fun _ => trivial) (by kernel_rfl) (by kernel_rfl) (by kernel_rfl) (by kernel_rfl) (fun _ _ _ h => h) (Or.inl ⟨by rfl, ?_⟩) hHeld ?_
                    rotate_left
                    · (intro w hSw; (try dsimp only at hSw); go_simp; try (with_reducible rfl))
                    try simp only [Act.put, List.setIfInBounds_toArray, List.set_cons_zero, List.set_cons_succ]
                    refine wpAnyS_take (i := 2) (oi := ⟨_, _, _, _, _, _⟩) (v := ?_) rfl (fun _ => trivial) (by kernel_rfl) (by kernel_rfl) (by kernel_rfl) (by kernel_rfl) (fun _ _ _ h => h) (Or.inl ⟨by rfl, ?_⟩) hHeld ?_
                    rotate_left
                    · (intro w hSw; (try dsimp only at hSw); go_simp; try (with_reducible rfl))
                    try simp only [Act.put, List.setIfInBounds_toArray, List.set_cons_zero, List.set_cons_succ]
                    refine wpAnyS_take (i := 3) (oi := ⟨_, _, _, _, _, _⟩) (v := ?_) rfl (fun _ => trivial) (by kernel_rfl) (by kernel_rfl) (by kernel_rfl) (by kernel_rfl) (fun _ _ _ h => h) (Or.inl ⟨by rfl, ?_⟩) hHeld ?_
                    rotate_left
                    · (intro w hSw; (try dsimp only at hSw); go_simp; try (with_reducible rfl))
                    try simp only [Act.put, List.setIfInBounds_toArray, List.set_cons_zero, List.set_cons_succ]
                    refine wpAnyS_take (i := 4) (oi := ⟨_, _, _, _, _, _⟩) (v := ?_) rfl (fun _ => trivial) (by kernel_rfl) (by kernel_rfl) (by kernel_rfl) (by kernel_rfl) (fun _ _ _ h => h) (Or.inl ⟨by rfl, ?_⟩) hHeld ?_
                    rotate_left
                    · (intro w hSw; (try dsimp only at hSw); go_simp; try (with_reducible rfl))
                    try simp only [Act.put, List.setIfInBounds_toArray, List.set_cons_zero, List.set_cons_succ]
                    refine wpAnyS_take (i := 5) (oi := ⟨_, _, _, _, _, _⟩) (v := ?_) rfl (fun _ => trivial) (by kernel_rfl) (by kernel_rfl) (by kernel_rfl) (by kernel_rfl) (fun _ _ _ h => h) (Or.inl ⟨by rfl, ?_⟩) hHeld ?_
                    rotate_left
                    · (intro w hSw; (try dsimp only at hSw); go_simp; rw [wrapI (x := (j : Int) + 1) (by omega), if_pos (by omega), show ((j : Int) + 1).toNat = j + 1 from by omega, if_pos (by have := Hjk.out; omega)]; try (with_reducible rfl))
                    try simp only [Act.put, List.setIfInBounds_toArray, List.set_cons_zero, List.set_cons_succ]
                    refine wpAnyS_take (i := 6) (oi := ⟨_, _, _, _, _, _⟩) (v := ?_) rfl (fun _ => trivial) (by kernel_rfl) (by kernel_rfl) (by kernel_rfl) (by kernel_rfl) (fun _ _ _ h => h) (Or.inl ⟨by rfl, ?_⟩) hHeld ?_
                    rotate_left
                    · (intro w hSw; (try dsimp only at hSw); go_simp; try (with_reducible rfl))
                    try simp only [Act.put, List.setIfInBounds_toArray, List.set_cons_zero, List.set_cons_succ]
                    refine wpAnyS_take (i := 7) (oi := ⟨_, _, _, _, _, _⟩) (v := ?_) rfl (fun _ => trivial) (by kernel_rfl) (by kernel_rfl) (by kernel_rfl) (by kernel_rfl) (fun _ _ _ h => h) (Or.inl ⟨by rfl, ?_⟩) hHeld ?_
                    rotate_left
                    · (intro w hSw; (try dsimp only at hSw); go_simp; try (with_reducible rfl))
                    try simp only [Act.put, List.setIfInBounds_toArray, List.set_cons_zero, List.set_cons_succ]
                    refine wpAnyS_take (i := 8) (oi := ⟨_, _, _, _, _, _⟩) (v := ?_) rfl (fun _ => trivial) (by kernel_rfl) (by kernel_rfl) (by kernel_rfl) (by kernel_rfl) (fun _ _ _ h => h) (Or.inl ⟨by rfl, ?_⟩) hHeld ?_
                    rotate_left
                    · (intro w hSw; (try dsimp only at hSw); go_simp; try (with_reducible rfl))
                    try simp only [Act.put, List.setIfInBounds_toArray, List.set_cons_zero, List.set_cons_succ]
                    refine wpAnyS_take (i := 9) (oi := ⟨_, _, _, _, _, _⟩) (v := ?_) rfl (fun _ => trivial) (by kernel_rfl) (by kernel_rfl) (by kernel_rfl) (by kernel_rfl) (fun _ _ _ h => h) (Or.inl ⟨by rfl, ?_⟩) hHeld ?_
                    rotate_left
                    · (intro w hSw; (try dsimp only at hSw); have c0 := (hSw.cell (p := ⟨wr.heap.size, j, none⟩) hgS).trans cS; go_simp; try (with_reducible rfl))
                    try simp only [Act.put, List.setIfInBounds_toArray, List.set_cons_zero, List.set_cons_succ]
                    refine wpAnyS_ready (rs := [10]) (by kernel_rfl) (by simp) ?_
                    refine AllS.cons (o := ⟨_, _, _, _, _, _⟩) rfl (fun _ => trivial) (fun K hK => ?_) AllS.nil
                    go_simp
                    refine wcall ((rHas_any _ (ints D) _ _ ((rs % nk : Nat) : Int) _ (HRd.out _ _ (by intro ht0; first | (have := Hjk.out; have := Hj.out; omega) | rfl | (simp [Addr.add]; done) | (simp [Addr.add]; omega)) hHeld) (by rw [hDs]; have := Hj.out; omega) (by omega)).mono ?_)
                    rintro e w' ⟨rfl, hw⟩
                    have hb := below_of_eq hw
                    clear hw
                    generalize hG : decide (((rs % nk : Nat) : Int) ∈ ints D) = tv
                    have HG := hide hG
                    clear hG
                    gi_wp2_with fail
                    refine hK.out _ _ ?_ (fun hHeld2 => ?_)
                    · intro _; (try dsimp only)
                      (first | exact hHeld | exact hHeld.trans (hb.mono hHeld.size) | exact hHeld.trans ((below_new _ _).mono hHeld.size) | exact hHeld.drew)
                    clear hK K hHeld; have hHeld := hHeld2 (by decide); clear hHeld2
                    try simp only [Act.put, List.setIfInBounds_toArray, List.set_cons_zero, List.set_cons_succ]
                    refine wpAnyS_take (i := 11) (oi := ⟨_, _, _, _, _, _⟩) (v := ?_) rfl (fun _ => trivial) (by kernel_rfl) (by kernel_rfl) (by kernel_rfl) (by kernel_rfl) (fun _ _ _ h => h) (Or.inl ⟨by rfl, ?_⟩) hHeld ?_
                    rotate_left
                    · (intro w hSw; (try dsimp only at hSw); go_simp; try (with_reducible rfl))
                    try simp only [Act.put, List.setIfInBounds_toArray, List.set_cons_zero, List.set_cons_succ]
                    refine wpAnyS_take (i := 12) (oi := ⟨_, _, _, _, _, _⟩) (v := ?_) rfl (fun _ => trivial) (by kernel_rfl) (by kernel_rfl) (by kernel_rfl) (by kernel_rfl) (fun _ _ _ h => h) (Or.inl ⟨by rfl, ?_⟩) hHeld ?_
                    rotate_left
                    · (intro w hSw; (try dsimp only at hSw); go_simp; try (with_reducible rfl))
                    try simp only [Act.put, List.setIfInBounds_toArray, List.set_cons_zero, List.set_cons_succ]
                    refine wpAnyS_done (by kernel_rfl) ?_ _
                    gi_wp2_with fail
                    refine ⟨t + 1, rs / nk, tv, (j : Int) - 1, by omega, by omega, by first | rfl | trivial, by first | rfl | trivial, by first | rfl | trivial, by first | rfl | trivial, by first | rfl | trivial, by first | rfl | trivial, by first | rfl | trivial, by first | rfl | trivial, by first | rfl | trivial, by first | rfl | trivial, by first | rfl | trivial, by first | rfl | trivial, by first | rfl | trivial, by first | rfl | trivial, by first | rfl | trivial, by have := Hj.out; omega, Hrs2.out, Hfin.out _ wS HG, HOF.out.below hHeld, HKS.out.trans (Kept.all _ hHeld)⟩
                  · have Hjk := hide hjk
                    clear hjk
                    refine wpIn_region_S (S := (fun W => Below wS.heap.size wS W)) (z := 13) (by kernel_rfl) (by (try dsimp only); exact (Below.refl _ _).drew) (fun hHeld => ?_)
                    generalize World.drew wS = Wd at hHeld ⊢
                    refine wpAnyS_take (i := 0) (oi := ⟨_, _, _, _, _, _⟩) (v := ?_) rfl (fun _ => trivial) (by kernel_rfl) (by kernel_rfl) (by kernel_rfl) (by kernel_rfl) (fun _ _ _ h => h) (Or.inl ⟨by rfl, ?_⟩) hHeld ?_
                    rotate_left
                    · (intro w hSw; (try dsimp only at hSw); go_simp; try (with_reducible rfl))
                    try simp only [Act.put, List.setIfInBounds_toArray, List.set_cons_zero, List.set_cons_succ]
                    refine wpAnyS_take (i := 1) (oi := ⟨_, _, _, _, _, _⟩) (v := ?_) rfl (fun _ => trivial) (by kernel_rfl) (by kernel_rfl) (by kernel_rfl) (by kernel_rfl) (fun _ _ _ h => h) (Or.inl ⟨by rfl, ?_⟩) hHeld ?_
                    rotate_left
                    · (intro w hSw; (try dsimp only at hSw); go_simp; try (with_reducible rfl))
                    try simp only [Act.put, List.setIfInBounds_toArray, List.set_cons_zero, List.set_cons_succ]
                    refine wpAnyS_take (i := 2) (oi := ⟨_, _, _, _, _, _⟩) (v := ?_) rfl (fun _ => trivial) (by kernel_rfl) (by kernel_rfl) (by kernel_rfl) (by kernel_rfl) (fun _ _ _ h => h) (Or.inl ⟨by rfl, ?_⟩) hHeld ?_
                    rotate_left
                    · (intro w hSw; (try dsimp only at hSw); go_simp; try (with_reducible rfl))
                    try simp only [Act.put, List.setIfInBounds_toArray, List.set_cons_zero, List.set_cons_succ]
                    refine wpAnyS_take (i := 3) (oi := ⟨_, _, _, _, _, _⟩) (v := ?_) rfl (fun _ => trivial) (by kernel_rfl) (by kernel_rfl) (by kernel_rfl) (by kernel_rfl) (fun _ _ _ h => h) (Or.inl ⟨by rfl, ?_⟩) hHeld ?_
                    rotate_left
                    · (intro w hSw; (try dsimp only at hSw); go_simp; try (with_reducible rfl))
                    try simp only [Act.put, List.setIfInBounds_toArray, List.set_cons_zero, List.set_cons_succ]
                    refine wpAnyS_take (i := 4) (oi := ⟨_, _, _, _, _, _⟩) (v := ?_) rfl (fun _ => trivial) (by kernel_rfl) (by kernel_rfl) (by kernel_rfl) (by kernel_rfl) (fun _ _ _ h => h) (Or.inl ⟨by rfl, ?_⟩) hHeld ?_
                    rotate_left
                    · (intro w hSw; (try dsimp only at hSw); go_simp; try (with_reducible rfl))
                    try simp only [Act.put, List.setIfInBounds_toArray, List.set_cons_zero, List.set_cons_succ]
                    refine wpAnyS_take (i := 5) (oi := ⟨_, _, _, _, _, _⟩) (v := ?_) rfl (fun _ => trivial) (by kernel_rfl) (by kernel_rfl) (by kernel_rfl) (by kernel_rfl) (fun _ _ _ h => h) (Or.inl ⟨by rfl, ?_⟩) hHeld ?_
                    rotate_left
                    · (intro w hSw; (try dsimp only at hSw); go_simp; rw [wrapI (x := (j : Int) + 1) (by omega), if_pos (by omega), show ((j : Int) + 1).toNat = j + 1 from by omega, if_neg (by have := Hjk.out; omega)]; try (with_reducible rfl))
                    try simp only [Act.put, List.setIfInBounds_toArray, List.set_cons_zero, List.set_cons_succ]
                    refine wpAnyS_take (i := 6) (oi := ⟨_, _, _, _, _, _⟩) (v := ?_) rfl (fun _ => trivial) (by kernel_rfl) (by kernel_rfl) (by kernel_rfl) (by kernel_rfl) (fun _ _ _ h => h) (Or.inl ⟨by rfl, ?_⟩) hHeld ?_
                    rotate_left
                    · (intro w hSw; (try dsimp only at hSw); go_simp; try (with_reducible rfl))
                    try simp only [Act.put, List.setIfInBounds_toArray, List.set_cons_zero, List.set_cons_succ]
                    refine wpAnyS_take (i := 7) (oi := ⟨_, _, _, _, _, _⟩) (v := ?_) rfl (fun _ => trivial) (by kernel_rfl) (by kernel_rfl) (by kernel_rfl) (by kernel_rfl) (fun _ _ _ h => h) (Or.inl ⟨by rfl, ?_⟩) hHeld ?_
                    rotate_left
                    · (intro w hSw; (try dsimp only at hSw); go_simp; try (with_reducible rfl))
                    try simp only [Act.put, List.setIfInBounds_toArray, List.set_cons_zero, List.set_cons_succ]
                    refine wpAnyS_take (i := 8) (oi := ⟨_, _, _, _, _, _⟩) (v := ?_) rfl (fun _ => trivial) (by kernel_rfl) (by kernel_rfl) (by kernel_rfl) (by kernel_rfl) (fun _ _ _ h => h) (Or.inl ⟨by rfl, ?_⟩) hHeld ?_
                    rotate_left
                    · (intro w hSw; (try dsimp only at hSw); go_simp; try (with_reducible rfl))
                    try simp only [Act.put, List.setIfInBounds_toArray, List.set_cons_zero, List.set_cons_succ]
                    refine wpAnyS_take (i := 9) (oi := ⟨_, _, _, _, _, _⟩) (v := ?_) rfl (fun _ => trivial) (by kernel_rfl) (by kernel_rfl) (by kernel_rfl) (by kernel_rfl) (fun _ _ _ h => h) (Or.inl ⟨by rfl, ?_⟩) hHeld ?_
                    rotate_left
                    · (intro w hSw; (try dsimp only at hSw); have c0 := (hSw.cell (p := ⟨wr.heap.size, j, none⟩) hgS).trans cS; go_simp; try (with_reducible rfl))
                    try simp only [Act.put, List.setIfInBounds_toArray, List.set_cons_zero, List.set_cons_succ]
                    refine wpAnyS_ready (rs := [10]) (by kernel_rfl) (by simp) ?_
                    refine AllS.cons (o := ⟨_, _, _, _, _, _⟩) rfl (fun _ => trivial) (fun K hK => ?_) AllS.nil
                    go_simp
                    refine wcall ((rHas_any _ (ints D) _ _ ((rs % nk : Nat) : Int) _ (HRd.out _ _ (by intro ht0; first | (have := Hjk.out; have := Hj.out; omega) | rfl | (simp [Addr.add]; done) | (simp [Addr.add]; omega)) hHeld) (by rw [hDs]; have := Hj.out; omega) (by omega)).mono ?_)
                    rintro e w' ⟨rfl, hw⟩
                    have hb := below_of_eq hw
                    clear hw
                    generalize hG : decide (((rs % nk : Nat) : Int) ∈ ints D) = tv
                    have HG := hide hG
                    clear hG
                    gi_wp2_with fail
                    refine hK.out _ _ ?_ (fun hHeld2 => ?_)
                    · intro _; (try dsimp only)
                      (first | exact hHeld | exact hHeld.trans (hb.mono hHeld.size) | exact hHeld.trans ((below_new _ _).mono hHeld.size) | exact hHeld.drew)
                    clear hK K hHeld; have hHeld := hHeld2 (by decide); clear hHeld2
                    try simp only [Act.put, List.setIfInBounds_toArray, List.set_cons_zero, List.set_cons_succ]
                    refine wpAnyS_take (i := 11) (oi := ⟨_, _, _, _, _, _⟩) (v := ?_) rfl (fun _ => trivial) (by kernel_rfl) (by kernel_rfl) (by kernel_rfl) (by kernel_rfl) (fun _ _ _ h => h) (Or.inl ⟨by rfl, ?_⟩) hHeld ?_
                    rotate_left
                    · (intro w hSw; (try dsimp only at hSw); go_simp; try (with_reducible rfl))
                    try simp only [Act.put, List.setIfInBounds_toArray, List.set_cons_zero, List.set_cons_succ]
                    refine wpAnyS_take (i := 12) (oi := ⟨_, _, _, _, _, _⟩) (v := ?_) rfl (fun _ => trivial) (by kernel_rfl) (by kernel_rfl) (by kernel_rfl) (by kernel_rfl) (fun _ _ _ h => h) (Or.inl ⟨by rfl, ?_⟩) hHeld ?_
                    rotate_left
                    · (intro w hSw; (try dsimp only at hSw); go_simp; try (with_reducible rfl))
                    try simp only [Act.put, List.setIfInBounds_toArray, List.set_cons_zero, List.set_cons_succ]
                    refine wpAnyS_done (by kernel_rfl) ?_ _
                    gi_wp2_with fail
                    refine ⟨t + 1, rs / nk, tv, (j : Int) - 1, by omega, by omega, by first | rfl | trivial, by first | rfl | trivial, by first | rfl | trivial, by first | rfl | trivial, by first | rfl | trivial, by first | rfl | trivial, by first | rfl | trivial, by first | rfl | trivial, by first | rfl | trivial, by first | rfl | trivial, by first | rfl | trivial, by first | rfl | trivial, by first | rfl | trivial, by first | rfl | trivial, by first | rfl | trivial, by have := Hj.out; omega, Hrs2.out, Hfin.out _ wS HG, HOF.out.below hHeld, HKS.out.trans (Kept.all _ hHeld)⟩
                · have hnd : ¬ D.Nodup := by have := HTwo.out; simpa using this.symm
                  refine wpIn_region_S (S := (fun W => Below wS.heap.size wS W)) (z := 13) (by kernel_rfl) (by (try dsimp only); exact (Below.refl _ _).drew) (fun hHeld => ?_)
                  generalize World.drew wS = Wd at hHeld ⊢
                  refine wpAnyS_take (i := 0) (oi := ⟨_, _, _, _, _, _⟩) (v := ?_) rfl (fun _ => trivial) (by kernel_rfl) (by kernel_rfl) (by kernel_rfl) (by kernel_rfl) (fun _ _ _ h => h) (Or.inl ⟨by rfl, ?_⟩) hHeld ?_
                  rotate_left
                  · (intro w hSw; (try dsimp only at hSw); go_simp; try (with_reducible rfl))
                  try simp only [Act.put, List.setIfInBounds_toArray, List.set_cons_zero, List.set_cons_succ]
                  refine wpAnyS_take (i := 1) (oi := ⟨_, _, _, _, _, _⟩) (v := ?_) rfl (fun _ => trivial) (by kernel_rfl) (by kernel_rfl) (by kernel_rfl) (by kernel_rfl) (fun _ _ _ h => h) (Or.inl ⟨by rfl, ?_⟩) hHeld ?_
                  rotate_left
                  · (intro w hSw; (try dsimp only at hSw); go_simp; try (with_reducible rfl))
                  try simp only [Act.put, List.setIfInBounds_toArray, List.set_cons_zero, List.set_cons_succ]
                  refine wpAnyS_take (i := 2) (oi := ⟨_, _, _, _, _, _⟩) (v := _) rfl (fun _ => trivial) (by kernel_rfl) (by kernel_rfl) (by kernel_rfl) (by kernel_rfl) (fun _ _ _ h => h) (Or.inr ⟨by rfl, rfl⟩) hHeld ?_
                  try simp only [Act.put, List.setIfInBounds_toArray, List.set_cons_zero, List.set_cons_succ]
                  refine wpAnyS_take (i := 3) (oi := ⟨_, _, _, _, _, _⟩) (v := _) rfl (fun _ => trivial) (by kernel_rfl) (by kernel_rfl) (by kernel_rfl) (by kernel_rfl) (fun _ _ _ h => h) (Or.inr ⟨by rfl, rfl⟩) hHeld ?_
                  try simp only [Act.put, List.setIfInBounds_toArray, List.set_cons_zero, List.set_cons_succ]
                  refine wpAnyS_take (i := 4) (oi := ⟨_, _, _, _, _, _⟩) (v := _) rfl (fun _ => trivial) (by kernel_rfl) (by kernel_rfl) (by kernel_rfl) (by kernel_rfl) (fun _ _ _ h => h) (Or.inr ⟨by rfl, rfl⟩) hHeld ?_
                  try simp only [Act.put, List.setIfInBounds_toArray, List.set_cons_zero, List.set_cons_succ]
                  refine wpAnyS_take (i := 5) (oi := ⟨_, _, _, _, _, _⟩) (v := _) rfl (fun _ => trivial) (by kernel_rfl) (by kernel_rfl) (by kernel_rfl) (by kernel_rfl) (fun _ _ _ h => h) (Or.inr ⟨by rfl, rfl⟩) hHeld ?_
                  try simp only [Act.put, List.setIfInBounds_toArray, List.set_cons_zero, List.set_cons_succ]
                  refine wpAnyS_take (i := 6) (oi := ⟨_, _, _, _, _, _⟩) (v := _) rfl (fun _ => trivial) (by kernel_rfl) (by kernel_rfl) (by kernel_rfl) (by kernel_rfl) (fun _ _ _ h => h) (Or.inr ⟨by rfl, rfl⟩) hHeld ?_
                  try simp only [Act.put, List.setIfInBounds_toArray, List.set_cons_zero, List.set_cons_succ]
                  refine wpAnyS_take (i := 7) (oi := ⟨_, _, _, _, _, _⟩) (v := _) rfl (fun _ => trivial) (by kernel_rfl) (by kernel_rfl) (by kernel_rfl) (by kernel_rfl) (fun _ _ _ h => h) (Or.inr ⟨by rfl, rfl⟩) hHeld ?_
                  try simp only [Act.put, List.setIfInBounds_toArray, List.set_cons_zero, List.set_cons_succ]
                  refine wpAnyS_take (i := 8) (oi := ⟨_, _, _, _, _, _⟩) (v := _) rfl (fun _ => trivial) (by kernel_rfl) (by kernel_rfl) (by kernel_rfl) (by kernel_rfl) (fun _ _ _ h => h) (Or.inr ⟨by rfl, rfl⟩) hHeld ?_
                  try simp only [Act.put, List.setIfInBounds_toArray, List.set_cons_zero, List.set_cons_succ]
                  refine wpAnyS_take (i := 9) (oi := ⟨_, _, _, _, _, _⟩) (v := _) rfl (fun _ => trivial) (by kernel_rfl) (by kernel_rfl) (by kernel_rfl) (by kernel_rfl) (fun _ _ _ h => h) (Or.inr ⟨by rfl, rfl⟩) hHeld ?_
                  try simp only [Act.put, List.setIfInBounds_toArray, List.set_cons_zero, List.set_cons_succ]
                  refine wpAnyS_take (i := 10) (oi := ⟨_, _, _, _, _, _⟩) (v := _) rfl (fun _ => trivial) (by kernel_rfl) (by kernel_rfl) (by kernel_rfl) (by kernel_rfl) (fun _ _ _ h => h) (Or.inr ⟨by rfl, rfl⟩) hHeld ?_
                  try simp only [Act.put, List.setIfInBounds_toArray, List.set_cons_zero, List.set_cons_succ]
                  refine wpAnyS_take (i := 11) (oi := ⟨_, _, _, _, _, _⟩) (v := ?_) rfl (fun _ => trivial) (by kernel_rfl) (by kernel_rfl) (by kernel_rfl) (by kernel_rfl) (fun _ _ _ h => h) (Or.inl ⟨by rfl, ?_⟩) hHeld ?_
                  rotate_left
                  · (intro w hSw; (try dsimp only at hSw); go_simp; try (with_reducible rfl))
                  try simp only [Act.put, List.setIfInBounds_toArray, List.set_cons_zero, List.set_cons_succ]
                  refine wpAnyS_take (i := 12) (oi := ⟨_, _, _, _, _, _⟩) (v := ?_) rfl (fun _ => trivial) (by kernel_rfl) (by kernel_rfl) (by kernel_rfl) (by kernel_rfl) (fun _ _ _ h => h) (Or.inl ⟨by rfl, ?_⟩) hHeld ?_
                  rotate_left
                  · (intro w hSw; (try dsimp only at hSw); go_simp; try (with_reducible rfl))
                  try simp only [Act.put, List.setIfInBounds_toArray, List.set_cons_zero, List.set_cons_succ]
                  refine wpAnyS_done (by kernel_rfl) ?_ _
                  gi_wp2_with fail
                  refine ⟨t + 1, rs / nk, true, (j : Int) - 1, by omega, by omega, by first | rfl | trivial, by first | rfl | trivial, by first | rfl | trivial, by first | rfl | trivial, by first | rfl | trivial, by first | rfl | trivial, by first | rfl | trivial, by first | rfl | trivial, by first | rfl | trivial, by first | rfl | trivial, by first | rfl | trivial, by first | rfl | trivial, by first | rfl | trivial, by first | rfl | trivial, by first | rfl | trivial, by have := Hj.out; omega, Hrs2.out, ?_, HOF.out.below hHeld, HKS.out.trans (Kept.all _ hHeld)⟩
                  rw [Hdig.out]
                  simp [hnd]
              · obtain rfl : nk = t := by omega
                obtain rfl : ix = -1 := by omega
                have hoq := HOq.out
                rw [Nat.sub_self, List.replicate_zero, List.nil_append] at hoq
                have hbq : Below wr.heap.size wr wq := Hb1.out.trans (HKq.out.below (fun b hb => by omega) Hb1.out.size)
                have HBq := hide (HB.out.trans (hbq.mono HB.out.size))
                have HNq := hide (HN.out.below hbq)
                have HFq := hide (HFl.out.below hbq)
                have hownq := HOwn.out.below hbq
                have HOwq := hide hownq
                cases tw
                · have hnd : (digsO nk nk wd).Nodup := by have := HTw.out; simpa using this.symm
                  have hdl : ∀ k ∈ digsO nk nk wd, k < fl.length ∧ k < ml.length := fun k hk => by
                    have h0 : 0 < nk := by
                      rcases Nat.eq_zero_or_pos nk with h | h
                      · subst h; simp [digsO] at hk
                      · exact h
                    have h1 := digs_lt nk h0 nk wd k hk
                    have h2 := Hnk.out
                    have h3 := Hnm.out
                    exact ⟨by omega, by omega⟩
                  have Hdl := hide hdl
                  have hmb : ∀ x ∈ ml, 0 ≤ x ∧ x ≤ 23040 := fun x hx => by
                    have hm := turnsOk_iff.1 Htn.out
                    have h1 := sumM_mem hm.2.2.1 hx
                    have h2 := hm.2.2.1 x hx
                    omega
                  have Hmb := hide hmb
                  have Huo := hide (show usesOk nf days (rowSt fl ml (digsO nk nk wd)).1 = true from row_ok Htn.out _ hnd (fun k hk => (Hdl.out k hk).1) (by rw [digsO_len]; exact hk6))
                  have HOr := hide (show Rd wq wq.heap.size icell (some ⟨wr.heap.size, 0, none⟩) ((digsO nk nk wd).map (fun k : Nat => (k : Int))) from hoq.rdv.2)
                  have HFl2 := hide ((Hf.out.below HBq.out).more HBq.out.size)
                  have HMl2 := hide ((Hm.out.below HBq.out).more HBq.out.size)
                  have Hnd := hide hnd
                  clear hnd hdl hmb hoq hownq hbq
                  gi_wp2_with fail
                  refine wpIn_region_S (S := (fun W => Below wq.heap.size wq W)) (z := 12) (by kernel_rfl) (by (try dsimp only); exact (Below.refl _ _).drew) (fun hHeld => ?_)
                  refine wpAnyS_take (i := 0) (oi := ⟨_, _, _, _, _, _⟩) (v := ?_) rfl (fun _ => trivial) (by kernel_rfl) (by kernel_rfl) (by kernel_rfl) (by kernel_rfl) (fun _ _ _ h => h) (Or.inl ⟨by rfl, ?_⟩) hHeld ?_
                  rotate_left
                  · (intro w hSw; (try dsimp only at hSw); obtain ⟨q0, q1, q2, q3⟩ := (HNq.out.below hSw).c4; obtain ⟨p0, p1⟩ := (HFq.out.below hSw).c2; go_simp; try (with_reducible rfl))
                  try simp only [Act.put, List.setIfInBounds_toArray, List.set_cons_zero, List.set_cons_succ]
                  refine wpAnyS_take (i := 1) (oi := ⟨_, _, _, _, _, _⟩) (v := ?_) rfl (fun _ => trivial) (by kernel_rfl) (by kernel_rfl) (by kernel_rfl) (by kernel_rfl) (fun _ _ _ h => h) (Or.inl ⟨by rfl, ?_⟩) hHeld ?_
                  rotate_left
                  · (intro w hSw; (try dsimp only at hSw); obtain ⟨q0, q1, q2, q3⟩ := (HNq.out.below hSw).c4; obtain ⟨p0, p1⟩ := (HFq.out.below hSw).c2; go_simp; try (with_reducible rfl))
                  try simp only [Act.put, List.setIfInBounds_toArray, List.set_cons_zero, List.set_cons_succ]
                  refine wpAnyS_take (i := 2) (oi := ⟨_, _, _, _, _, _⟩) (v := ?_) rfl (fun _ => trivial) (by kernel_rfl) (by kernel_rfl) (by kernel_rfl) (by kernel_rfl) (fun _ _ _ h => h) (Or.inl ⟨by rfl, ?_⟩) hHeld ?_
                  rotate_left
                  · (intro w hSw; (try dsimp only at hSw); go_simp; try (with_reducible rfl))
                  try simp only [Act.put, List.setIfInBounds_toArray, List.set_cons_zero, List.set_cons_succ]
                  refine wpAnyS_take (i := 3) (oi := ⟨_, _, _, _, _, _⟩) (v := ?_) rfl (fun _ => trivial) (by kernel_rfl) (by kernel_rfl) (by kernel_rfl) (by kernel_rfl) (fun _ _ _ h => h) (Or.inl ⟨by rfl, ?_⟩) hHeld ?_
                  rotate_left
                  · (intro w hSw; (try dsimp only at hSw); go_simp; try (with_reducible rfl))
                  try simp only [Act.put, List.setIfInBounds_toArray, List.set_cons_zero, List.set_cons_succ]
                  refine wpAnyS_take (i := 4) (oi := ⟨_, _, _, _, _, _⟩) (v := ?_) rfl (fun _ => trivial) (by kernel_rfl) (by kernel_rfl) (by kernel_rfl) (by kernel_rfl) (fun _ _ _ h => h) (Or.inl ⟨by rfl, ?_⟩) hHeld ?_
                  rotate_left
                  · (intro w hSw; (try dsimp only at hSw); go_simp; try (with_reducible rfl))
                  try simp only [Act.put, List.setIfInBounds_toArray, List.set_cons_zero, List.set_cons_succ]
                  refine wpAnyS_ready (rs := [5]) (by kernel_rfl) (by simp) ?_
                  refine AllS.cons (o := ⟨_, _, _, _, _, _⟩) rfl (fun _ => trivial) (fun K hK => ?_) AllS.nil
                  go_simp
                  refine wcall ((rRow_any Aff Am (some ⟨wr.heap.size, 0, none⟩) nk cff nk cm nk nk fl ml (digsO nk nk wd) _ (HFl2.out.below hHeld |>.more hHeld.size) (HMl2.out.below hHeld |>.more hHeld.size) (HOr.out.below hHeld |>.more hHeld.size) Hnk.out Hnm.out (digsO_len nk nk wd).symm hk6 Hdl.out Hmb.out).mono ?_)
                  rintro e w' ⟨vR, rfl, hoR, hb⟩
                  obtain ⟨AR, cR, rfl, hrR⟩ := hoR.rd
                  rw [rowSt_len, digsO_len]
                  have HrR := hide hrR
                  clear hoR hrR
                  gi_wp2_with fail
                  refine hK.out _ _ ?_ (fun hHeld2 => ?_)
                  · intro _; (try dsimp only)
                    (first | exact hHeld | exact hHeld.trans (hb.mono hHeld.size) | exact hHeld.trans ((below_new _ _).mono hHeld.size) | exact hHeld.drew)
                  clear hK K hHeld; have hHeld := hHeld2 (by decide); clear hHeld2
                  try simp only [Act.put, List.setIfInBounds_toArray, List.set_cons_zero, List.set_cons_succ]
                  refine wpAnyS_ready (rs := [6]) (by kernel_rfl) (by simp) ?_
                  refine AllS.cons (o := ⟨_, _, _, _, _, _⟩) rfl (fun _ => trivial) (fun K hK => ?_) AllS.nil
                  go_simp
                  refine wcall ((rWaters_any Ac Af AR nc cc nf cf nk cR dry days a b cs fs (rowSt fl ml (digsO nk nk wd)).1 _ (Hnet.out.below (HBq.out.trans (hHeld.mono HBq.out.size))) HrR.out (by rw [rowSt_len, digsO_len]) Hok.out Huo.out Hsp.out).mono ?_)
                  rintro e w' ⟨gf, gl, rfl, hof, hol, hb⟩
                  have hoff := hide hof
                  clear hof hol
                  gi_wp2_with fail
                  refine hK.out _ _ ?_ (fun hHeld2 => ?_)
                  · intro _; (try dsimp only)
                    (first | exact hHeld | exact hHeld.trans (hb.mono hHeld.size) | exact hHeld.trans ((below_new _ _).mono hHeld.size) | exact hHeld.drew)
                  clear hK K hHeld; have hHeld := hHeld2 (by decide); clear hHeld2
                  try simp only [Act.put, List.setIfInBounds_toArray, List.set_cons_zero, List.set_cons_succ]
                  refine wpAnyS_take (i := 7) (oi := ⟨_, _, _, _, _, _⟩) (v := ?_) rfl (fun _ => trivial) (by kernel_rfl) (by kernel_rfl) (by kernel_rfl) (by kernel_rfl) (fun _ _ _ h => h) (Or.inl ⟨by rfl, ?_⟩) hHeld ?_
                  rotate_left
                  · (intro w hSw; (try dsimp only at hSw); go_simp; try (with_reducible rfl))
                  try simp only [Act.put, List.setIfInBounds_toArray, List.set_cons_zero, List.set_cons_succ]
                  refine wpAnyS_take (i := 8) (oi := ⟨_, _, _, _, _, _⟩) (v := ?_) rfl (fun _ => trivial) (by kernel_rfl) (by kernel_rfl) (by kernel_rfl) (by kernel_rfl) (fun _ _ _ h => h) (Or.inl ⟨by rfl, ?_⟩) hHeld ?_
                  rotate_left
                  · (intro w hSw; (try dsimp only at hSw); go_simp; try (with_reducible rfl))
                  try simp only [Act.put, List.setIfInBounds_toArray, List.set_cons_zero, List.set_cons_succ]
                  refine wpAnyS_take (i := 9) (oi := ⟨_, _, _, _, _, _⟩) (v := ?_) rfl (fun _ => trivial) (by kernel_rfl) (by kernel_rfl) (by kernel_rfl) (by kernel_rfl) (fun _ _ _ h => h) (Or.inl ⟨by rfl, ?_⟩) hHeld ?_
                  rotate_left
                  · (intro w hSw; (try dsimp only at hSw); go_simp; try (with_reducible rfl))
                  try simp only [Act.put, List.setIfInBounds_toArray, List.set_cons_zero, List.set_cons_succ]
                  refine wpAnyS_take (i := 10) (oi := ⟨_, _, _, _, _, _⟩) (v := ?_) rfl (fun _ => trivial) (by kernel_rfl) (by kernel_rfl) (by kernel_rfl) (by kernel_rfl) (fun _ _ _ h => h) (Or.inl ⟨by rfl, ?_⟩) hHeld ?_
                  rotate_left
                  · (intro w hSw; (try dsimp only at hSw); go_simp; try (with_reducible rfl))
                  try simp only [Act.put, List.setIfInBounds_toArray, List.set_cons_zero, List.set_cons_succ]
                  refine wpAnyS_take (i := 11) (oi := ⟨_, _, _, _, _, _⟩) (v := ?_) rfl (fun _ => trivial) (by kernel_rfl) (by kernel_rfl) (by kernel_rfl) (by kernel_rfl) (fun _ _ _ h => h) (Or.inl ⟨by rfl, ?_⟩) hHeld ?_
                  rotate_left
                  · (intro w hSw; (try dsimp only at hSw); go_simp; try (with_reducible rfl))
                  try simp only [Act.put, List.setIfInBounds_toArray, List.set_cons_zero, List.set_cons_succ]
                  refine wpAnyS_done (by kernel_rfl) ?_ _
                  obtain ⟨A1, c1, hv, r1⟩ := hoff.out.rd
                  injection hv with e1 e2 e3
                  subst e1 e3
                  have hws := waters_sums (dry := dry) Hok.out (by rw [← Hnet.out.ef]; exact Huo.out) Hsp.out
                  have R1 := hide r1; have Hws := hide hws; have E2 := hide e2
                  have HOf := hide ((HOq.out.below hHeld))
                  have HOwf := hide (HOwq.out.below hHeld)
                  have HNf := hide (HNq.out.below hHeld)
                  have HFf := hide (HFq.out.below hHeld)
                  have HBf := hide (HBq.out.trans (hHeld.mono HBq.out.size))
                  have hst1 : wordsTo (valO cs fs dry (days * 1440) a b fl ml) nk (wd + 1) = stO (valO cs fs dry (days * 1440) a b fl ml) (wordsTo (valO cs fs dry (days * 1440) a b fl ml) nk wd) (digsO nk nk wd) := by rw [wordsTo_succ, if_pos Hnd.out]
                  have Hst1 := hide hst1
                  clear r1 hws e2 hHeld hst1
                  gi_wp2_with fail
                  refine wcall ((rSum_any (some ⟨gf, 0, none⟩) nf nf (watersK cs fs dry (days * 1440) a b (rowSt fl ml (digsO nk nk wd)).1 (rowSt fl ml (digsO nk nk wd)).1.length).1 w' R1.out E2.out hnf2 Hws.out.1 Hws.out.2).mono ?_)
                  rintro e w9 ⟨rfl, rfl⟩
                  rw [show (sumS ⟨0, 0⟩ (watersK cs fs dry (days * 1440) a b (rowSt fl ml (digsO nk nk wd)).1 (rowSt fl ml (digsO nk nk wd)).1.length).1).lo = valO cs fs dry (days * 1440) a b fl ml (digsO nk nk wd) from rfl]
                  obtain ⟨vl, hvl⟩ : ∃ vl, vl = valO cs fs dry (days * 1440) a b fl ml (digsO nk nk wd) := ⟨_, rfl⟩
                  rw [← hvl]
                  by_cases hlv : mo < vl
                  · have hst2 : wordsTo (valO cs fs dry (days * 1440) a b fl ml) nk (wd + 1) = (digsO nk nk wd, vl) := by rw [Hst1.out]; unfold stO; rw [← HMo.out, ← hvl, if_pos hlv]
                    have Hst2 := hide hst2
                    clear hst2 hvl
                    gi_wp2_with fail
                    refine ⟨wd + 1, .slice (some ⟨wr.heap.size, 0, none⟩) nk nk, vl, by omega, by omega, by first | rfl | trivial, by first | rfl | trivial, by first | rfl | trivial, by first | rfl | trivial, by first | rfl | trivial, by first | rfl | trivial, by first | rfl | trivial, by first | rfl | trivial, by first | rfl | trivial, by first | rfl | trivial, by first | rfl | trivial, by rw [Hst2.out], ?_, HNf.out, HFf.out, HBf.out⟩
                    rw [Hst2.out]
                    have h := HOf.out
                    rw [Nat.sub_self, List.replicate_zero, List.nil_append] at h
                    exact h
                  · have hst2 : wordsTo (valO cs fs dry (days * 1440) a b fl ml) nk (wd + 1) = wordsTo (valO cs fs dry (days * 1440) a b fl ml) nk wd := by rw [Hst1.out]; unfold stO; rw [← HMo.out, ← hvl, if_neg hlv]
                    have Hst2 := hide hst2
                    clear hst2 hvl
                    gi_wp2_with fail
                    refine ⟨wd + 1, vB, mo, by omega, by omega, by first | rfl | trivial, by first | rfl | trivial, by first | rfl | trivial, by first | rfl | trivial, by first | rfl | trivial, by first | rfl | trivial, by first | rfl | trivial, by first | rfl | trivial, by first | rfl | trivial, by first | rfl | trivial, by first | rfl | trivial, by rw [Hst2.out]; exact HMo.out, by rw [Hst2.out]; exact HOwf.out, HNf.out, HFf.out, HBf.out⟩
                · have hnd : ¬ (digsO nk nk wd).Nodup := by have := HTw.out; simpa using this.symm
                  have Hnd := hide hnd
                  clear hnd hoq hownq hbq
                  gi_wp2_with fail
                  refine ⟨wd + 1, vB, mo, by omega, by omega, by first | rfl | trivial, by first | rfl | trivial, by first | rfl | trivial, by first | rfl | trivial, by first | rfl | trivial, by first | rfl | trivial, by first | rfl | trivial, by first | rfl | trivial, by first | rfl | trivial, by first | rfl | trivial, by first | rfl | trivial, ?_, ?_, HNq.out, HFq.out, HBq.out⟩
                  · rw [wordsTo_succ, if_neg Hnd.out]; exact HMo.out
                  · rw [wordsTo_succ, if_neg Hnd.out]; exact HOwq.out
          · obtain rfl : wd = Z := by omega
            gi_wp2_with fail
            go_ret3
            rw [← Hnk.out, ← words_dfs]
            rw [← HZ.out]
            rw [← HMo.out]
            exact ⟨_, rfl, HOwn.out.mono (by omega), HB.out⟩
end Go.Proofs.Ytgklcilpohkpkaa
