/- SaltNeed: with what a field needs its palms live, with a litre less it may be too salt, and if nothing is said to be enough nothing is. The law returns true for every soil and another number of litres. No conditions. -/
import Derived.Test.YtmbhnjpaieimbaaSA1
import Derived.Test.YtmbhnjpaieimbaaSA2
import Derived.Test.YtmbhnjpaieimbaaPBH
import Derived.Test.YtmbhnjpaieimbaaOpenS
import Derived.Deep.Cut
set_option linter.unusedVariables false
set_option linter.unusedSimpArgs false
namespace Go.Proofs.Ytmbhnjpaieimbaa
open Go.RowKit Go.Shelf Go.WideShapes Go.ChangeShapes Go.ChangeAt
set_option maxRecDepth 100000 in
theorem open_u32 {H : Type} {enc : TypeId × Value → H} {W : World} {base b' : Nat} {spare : Nat → Bool} {held : Bool} {v : Value} {d : DataW H} {p : List MemPlace}
    (hv : Value.okWide Try.prog W .any b' 72 v) (h : DataW.Trod enc Try.prog W base spare held 72 v d p) : ∃ n : Nat, v = .int .u32 (n : Int) ∧ n ≤ 4294967295 := by
  obtain ⟨x, rfl, _, _, wx⟩ := open_int Try.underlying72 hv h
  have h := bounds_u32 wx
  exact ⟨x.toNat, by rw [Int.toNat_of_nonneg h.1], by omega⟩
theorem after_soil (s : So) (wa : Sp) (c : Nat) (w : World) (hso : soOk s = true) (hwa : Sp.ok 0 1000000000 wa = true) (hc : c ≤ 100) :
    Calls Try.prog 14 #[.agg #[.int .i64 s.salt.lo, .int .i64 s.salt.hi, .int .i64 s.limit, .int .i64 s.crop, .int .i64 s.mineral.lo, .int .i64 s.mineral.hi, .int .i64 s.wash.lo, .int .i64 s.wash.hi, .int .i64 s.rise.lo, .int .i64 s.rise.hi], .agg #[.int .i64 wa.lo, .int .i64 wa.hi], .int .i64 (c : Int)] w fun e w' => ∃ A cl, e = .returned (.tuple #[.slice A c cl, .int .i64 0]) ∧ Rd w' w'.heap.size Sp.cells A (afterL s wa c) ∧ Below w.heap.size w w' := by
  refine (show Calls Try.prog 14 _ _ (fun e w' => ∃ v, e = .returned (.tuple #[v, .int .i64 (afterE s wa c)]) ∧ Own w' w.heap.size 23 2 Sp.cells v (afterV s wa c) ∧ Below w.heap.size w w') from after_fn _ _ _ _ _ _ _ _ _ _ _ _ _ _).mono ?_
  rintro e w6 ⟨v, rfl, ho, hb6⟩
  have hAE : afterE s wa c = 0 := by
    unfold afterE; rw [if_pos hso, if_pos]; simp [inB]; exact ⟨hwa, by omega⟩
  have hAV : afterV s wa c = afterL s wa c := by
    unfold afterV; rw [if_pos]
    · simp
    · simp [afterOk, inB]; exact ⟨hso, hwa, by omega⟩
  rw [hAV] at ho
  rw [hAE]
  obtain ⟨Al, cl, rfl, rl⟩ := ho.rdn c (afterL_len _ _ _)
  exact ⟨Al, cl, rfl, rl, hb6⟩
theorem need_soil (s : So) (w : World) :
    Calls Try.prog 16 #[.agg #[.int .i64 s.salt.lo, .int .i64 s.salt.hi, .int .i64 s.limit, .int .i64 s.crop, .int .i64 s.mineral.lo, .int .i64 s.mineral.hi, .int .i64 s.wash.lo, .int .i64 s.wash.hi, .int .i64 s.rise.lo, .int .i64 s.rise.hi]] w fun e w' => e = .returned (.tuple #[.int .i64 (needF s).1, .int .i64 (needF s).2]) ∧ Below w.heap.size w w' := need_fn _ _ _ _ _ _ _ _ _ _ _
set_option maxHeartbeats 4000000 in
set_option maxRecDepth 100000 in
theorem sneed1_any (s : So) (b : Nat) (v : Int) (w : World) (hx : At w b [.int .i64 s.salt.lo, .int .i64 s.salt.hi, .int .i64 s.limit, .int .i64 s.crop, .int .i64 s.mineral.lo, .int .i64 s.mineral.hi, .int .i64 s.wash.lo, .int .i64 s.wash.hi, .int .i64 s.rise.lo, .int .i64 s.rise.hi]) (hso : soOk s = true) (h0 : 0 ≤ v) (h1 : v ≤ 1000000000) :
    Calls Try.prog 39 #[.int .i64 v, .pointer (some ⟨b, 0, none⟩)] w fun e w' => e = .returned (.bool (fineF s v)) ∧ Below w.heap.size w w' := by
  have Hx := hide hx
  have Hso := hide hso
  have Hwa : Hid (Sp.ok 0 1000000000 ⟨v, v⟩ = true) := hide (by simp [Sp.ok, inB]; omega)
  have Hlim := hide (So.limit_of hso)
  clear hx hso
  go_enter Try.func39, Try.ntmps39
  go_upto_region 1 with fail
  refine wp_region_held_drew (S := (fun W => Below w.heap.size w W)) (by kernel_rfl) (by (try dsimp only); exact (Below.refl _ _).drew) (fun hHeld => ?_)
  generalize World.drew w = Wd1 at hHeld ⊢
  have hbc := Below.refl Wd1.heap.size Wd1
  refine wpAnyH_take (i := 0) (oi := ⟨_, _, _, _, _, _⟩) (v := ?_) rfl (by kernel_rfl) (by kernel_rfl) (by kernel_rfl) (fun _ _ _ h => h) (Or.inl ⟨by rfl, ?_⟩) hHeld ?_
  rotate_left
  · (intro w hSw; (try dsimp only at hSw); obtain ⟨q0, q1, q2, q3, q4, q5, q6, q7, q8, q9⟩ := (Hx.out.below hSw).c10; go_simp; try (with_reducible rfl))
  try simp only [Act.put, List.setIfInBounds_toArray, List.set_cons_zero, List.set_cons_succ]
  refine wpAnyH_take (i := 1) (oi := ⟨_, _, _, _, _, _⟩) (v := ?_) rfl (by kernel_rfl) (by kernel_rfl) (by kernel_rfl) (fun _ _ _ h => h) (Or.inl ⟨by rfl, ?_⟩) hHeld ?_
  rotate_left
  · (intro w hSw; (try dsimp only at hSw); go_simp; try (with_reducible rfl))
  try simp only [Act.put, List.setIfInBounds_toArray, List.set_cons_zero, List.set_cons_succ]
  refine wpAnyH_take (i := 2) (oi := ⟨_, _, _, _, _, _⟩) (v := ?_) rfl (by kernel_rfl) (by kernel_rfl) (by kernel_rfl) (fun _ _ _ h => h) (Or.inl ⟨by rfl, ?_⟩) hHeld ?_
  rotate_left
  · (intro w hSw; (try dsimp only at hSw); go_simp; try (with_reducible rfl))
  try simp only [Act.put, List.setIfInBounds_toArray, List.set_cons_zero, List.set_cons_succ]
  refine wpAnyH_ready (rs := [3]) (by kernel_rfl) (by simp) ?_
  refine AllReadyH.cons (o := ⟨_, _, _, _, _, _⟩) rfl (fun K hK => ?_) AllReadyH.nil
  go_simp
  refine (sspan_any _ _ _).mono ?_
  rintro e V10 ⟨rfl, hb⟩
  go_wp2_with fail
  have hHeldN := hHeld.trans (hb.mono hHeld.size)
  have hbc := hbc.trans (hb.mono hbc.size)
  refine hK.out _ _ ?_ (fun hHeld2 => ?_)
  · exact hHeldN
  clear hK K hHeld hHeldN hb; have hHeld := hHeld2; clear hHeld2
  try simp only [Act.put, List.setIfInBounds_toArray, List.set_cons_zero, List.set_cons_succ]
  refine wpAnyH_ready (rs := [4]) (by kernel_rfl) (by simp) ?_
  refine AllReadyH.cons (o := ⟨_, _, _, _, _, _⟩) rfl (fun K hK => ?_) AllReadyH.nil
  go_simp
  refine (after_soil s ⟨v, v⟩ 1 _ Hso.out Hwa.out (by omega)).mono ?_
  rintro e V11 ⟨Al, cl, rfl, rl, hb⟩
  go_wp2_with fail
  have hHeldN := hHeld.trans (hb.mono hHeld.size)
  have hbc := hbc.trans (hb.mono hbc.size)
  refine hK.out _ _ ?_ (fun hHeld2 => ?_)
  · exact hHeldN
  clear hK K hHeld hHeldN hb; have hHeld := hHeld2; clear hHeld2
  try simp only [Act.put, List.setIfInBounds_toArray, List.set_cons_zero, List.set_cons_succ]
  refine wpAnyH_take (i := 5) (oi := ⟨_, _, _, _, _, _⟩) (v := ?_) rfl (by kernel_rfl) (by kernel_rfl) (by kernel_rfl) (fun _ _ _ h => h) (Or.inl ⟨by rfl, ?_⟩) hHeld ?_
  rotate_left
  · (intro w hSw; (try dsimp only at hSw); go_simp; try (with_reducible rfl))
  try simp only [Act.put, List.setIfInBounds_toArray, List.set_cons_zero, List.set_cons_succ]
  refine wpAnyH_take (i := 6) (oi := ⟨_, _, _, _, _, _⟩) (v := ?_) rfl (by kernel_rfl) (by kernel_rfl) (by kernel_rfl) (fun _ _ _ h => h) (Or.inl ⟨by rfl, ?_⟩) hHeld ?_
  rotate_left
  · (intro w hSw; (try dsimp only at hSw); go_simp; try (with_reducible rfl))
  try simp only [Act.put, List.setIfInBounds_toArray, List.set_cons_zero, List.set_cons_succ]
  refine wpAnyH_take (i := 7) (oi := ⟨_, _, _, _, _, _⟩) (v := ?_) rfl (by kernel_rfl) (by kernel_rfl) (by kernel_rfl) (fun _ _ _ h => h) (Or.inl ⟨by rfl, ?_⟩) hHeld ?_
  rotate_left
  · (intro w hSw; (try dsimp only at hSw); go_simp; try (with_reducible rfl))
  try simp only [Act.put, List.setIfInBounds_toArray, List.set_cons_zero, List.set_cons_succ]
  refine wpAnyH_take (i := 8) (oi := ⟨_, _, _, _, _, _⟩) (v := ?_) rfl (by kernel_rfl) (by kernel_rfl) (by kernel_rfl) (fun _ _ _ h => h) (Or.inl ⟨by rfl, ?_⟩) hHeld ?_
  rotate_left
  · (intro w hSw; (try dsimp only at hSw); go_simp; try (with_reducible rfl))
  try simp only [Act.put, List.setIfInBounds_toArray, List.set_cons_zero, List.set_cons_succ]
  refine wpAnyH_take (i := 9) (oi := ⟨_, _, _, _, _, _⟩) (v := ?_) rfl (by kernel_rfl) (by kernel_rfl) (by kernel_rfl) (fun _ _ _ h => h) (Or.inl ⟨by rfl, ?_⟩) hHeld ?_
  rotate_left
  · (intro w hSw; (try dsimp only at hSw); go_simp; try (with_reducible rfl))
  try simp only [Act.put, List.setIfInBounds_toArray, List.set_cons_zero, List.set_cons_succ]
  refine wpAnyH_done (by kernel_rfl) ?_ _
  obtain ⟨bl, off, lo, hi, rfl, hbl, hpk, c0, c1⟩ := rl.sp (i := 0) (by rw [afterL_len]; omega)
  have hsp : cycleF s ⟨v, v⟩ = ⟨lo, hi⟩ := by
    rw [show (afterL s ⟨v, v⟩ 1)[0]? = some (saltN s ⟨v, v⟩ 1) by simp [afterL]] at hpk
    exact Option.some.inj hpk
  have hone := cycle_one (s := s) (v := v) Hlim.out.1
  rw [hsp] at hone
  obtain ⟨q0, q1, q2, q3, q4, q5, q6, q7, q8, q9⟩ := (Hx.out.below hHeld).c10
  obtain ⟨w2, hw2⟩ : ∃ w2, Hid (V11 = w2) := ⟨_, hide rfl⟩
  have hB := hHeld
  have Hone := hide hone
  clear hpk hsp hone hHeld hbc rl
  by_cases hle : hi ≤ s.limit
  · have d1 : decide (hi ≤ s.limit) = true := decide_eq_true hle
    have Hf := hide (Hone.out.1 hle)
    clear hle
    go_upto_region 2 with fail
    go_quiet (fail)
    go_wp2_with fail
    go_ret
    exact ⟨ret_bool Hf.out.symm, below_drewN hB _⟩
  · have d1 : decide (hi ≤ s.limit) = false := decide_eq_false hle
    have Hf : Hid (fineF s v = false) := hide (by
      cases h : fineF s v
      · rfl
      · exact absurd (Hone.out.2 h) hle)
    clear hle
    go_upto_region 2 with fail
    go_quiet (fail)
    go_wp2_with fail
    go_ret
    exact ⟨ret_bool Hf.out.symm, below_drewN hB _⟩
set_option maxHeartbeats 40000000 in
set_option maxRecDepth 100000 in
theorem sneed_walk (s : So) (ot : Nat) (w : World) (hot : ot ≤ 4294967295) :
    Calls Try.prog 7 #[.agg #[.int .i64 s.salt.lo, .int .i64 s.salt.hi, .int .i64 s.limit, .int .i64 s.crop, .int .i64 s.mineral.lo, .int .i64 s.mineral.hi, .int .i64 s.wash.lo, .int .i64 s.wash.hi, .int .i64 s.rise.lo, .int .i64 s.rise.hi], .int .u32 (ot : Int)] w fun e w' => e = .returned (.bool true) ∧ Below w.heap.size w w' := by
  obtain ⟨b2, w1, e2, ew1, hx, hB, hz1⟩ := mk_bx w #[.int .i64 s.salt.lo, .int .i64 s.salt.hi, .int .i64 s.limit, .int .i64 s.crop, .int .i64 s.mineral.lo, .int .i64 s.mineral.hi, .int .i64 s.wash.lo, .int .i64 s.wash.hi, .int .i64 s.rise.lo, .int .i64 s.rise.hi] 25
  clear hz1
  go_enter Try.func7, Try.ntmps7
  go_wp2_with fail
  rw [ew1.out, e2.out]
  refine (salive_any _).mono ?_
  rintro e w3 ⟨rfl, hb3⟩
  replace hB := hB.trans (hb3.mono hB.size)
  replace hx := hx.bel hb3
  obtain ⟨q0, q1, q2, q3, q4, q5, q6, q7, q8, q9⟩ := hx.at_.c10
  clear hb3
  go_wp2_with fail
  refine (show Calls Try.prog 19 _ _ (fun e w' => e = .returned (.int .i64 (soCheck s)) ∧ Below w3.heap.size w3 w') from ref06_check _ _ _ _ _ _ _ _ _ _ _).mono ?_
  rintro e w4 ⟨rfl, hb4⟩
  replace hB := hB.trans (hb4.mono hB.size)
  replace hx := hx.bel hb4
  clear q0 q1 q2 q3 q4 q5 q6 q7 q8 q9 hb4
  cases hso : soOk s
  · have hce : soCheck s = 60 := by simp [soCheck, hso]
    rw [hce]
    clear hso hce
    go_wp2_with fail
    go_ret
    exact ⟨rfl, hB⟩
  have hce : soCheck s = 0 := by simp [soCheck, hso]
  rw [hce]
  have Hso := hide hso
  have hcr := (So.fit_of hso).cr
  have Hnd := hide (need_spec hso)
  clear hso hce
  obtain ⟨q0, q1, q2, q3, q4, q5, q6, q7, q8, q9⟩ := hx.at_.c10
  go_wp2_with fail
  refine (need_soil s _).mono ?_
  rintro e w5 ⟨rfl, hb5⟩
  replace hB := hB.trans (hb5.mono hB.size)
  replace hx := hx.bel hb5
  clear q0 q1 q2 q3 q4 q5 q6 q7 q8 q9 hb5
  have hm1 : (0 : Int) ≤ (ot : Int) % (1000000000 - s.crop + 1) ∧ (ot : Int) % (1000000000 - s.crop + 1) < 1000000000 - s.crop + 1 := ⟨Int.emod_nonneg _ (by omega), Int.emod_lt_of_pos _ (by omega)⟩
  obtain ⟨r, hr⟩ : ∃ r, r = (ot : Int) % (1000000000 - s.crop + 1) := ⟨_, rfl⟩
  rw [← hr] at hm1
  have t1 : Int.tmod (ot : Int) (1000000000 - s.crop + 1) = r := by rw [Int.tmod_eq_emod_of_nonneg (by omega), hr]
  have nz : ¬ 1000000000 - s.crop + 1 = 0 := by omega
  have fm : IntKind.i64.wrap (ot : Int) = ot := wrapI (by omega)
  have Hr := hide hr
  clear hr
  obtain ⟨q0, q1, q2, q3, q4, q5, q6, q7, q8, q9⟩ := hx.at_.c10
  rcases Hnd.out with ⟨n, hn, a1, a2, f1, g1⟩ | ⟨hn, g1⟩
  · rw [hn]
    have F1 := hide f1; have G1 := hide g1; have Hn := hide hn
    clear hn f1 g1
    go_upto_region 8 with fail
    go_quiet (fail)
    replace hx := hx.bel (below_drewN (Below.refl _ _) nq)
    replace hB := below_drewN hB nq
    obtain ⟨w6, hw6⟩ : ∃ w6, Hid (w5.drewN nq = w6) := ⟨_, hide rfl⟩
    rw [hw6.out] at hx hB ⊢
    clear q0 q1 q2 q3 q4 q5 q6 q7 q8 q9 t1 nz fm hw6
    obtain ⟨q0, q1, q2, q3, q4, q5, q6, q7, q8, q9⟩ := hx.at_.c10
    have i1 : ¬ n < s.crop := by omega
    have i2 : ¬ 1000000000 < n := by omega
    go_wp2_with fail
    refine (sneed1_any s b2 n w6 hx.at_ Hso.out (by omega) (by omega)).mono ?_
    rintro e w7 ⟨rfl, hb7⟩
    rw [F1.out]
    replace hB := hB.trans (hb7.mono hB.size)
    replace hx := hx.bel hb7
    clear q0 q1 q2 q3 q4 q5 q6 q7 q8 q9 hb7
    obtain ⟨q0, q1, q2, q3, q4, q5, q6, q7, q8, q9⟩ := hx.at_.c10
    have last : ∀ W, Bx W b2 [.int .i64 s.salt.lo, .int .i64 s.salt.hi, .int .i64 s.limit, .int .i64 s.crop, .int .i64 s.mineral.lo, .int .i64 s.mineral.hi, .int .i64 s.wash.lo, .int .i64 s.wash.hi, .int .i64 s.rise.lo, .int .i64 s.rise.hi] → Below w.heap.size w W → (s.crop + r < n → fineF s (s.crop + r) = false) := fun W _ _ h => G1.out _ (by omega) h
    clear last
    by_cases hnc : s.crop < n
    · have k84 : IntKind.i64.wrap (n - 1) = n - 1 := wrapI (by omega)
      have Gp := hide (G1.out (n - 1) (by omega) (by omega))
      go_wp2_with fail
      refine (sneed1_any s b2 (n - 1) w7 hx.at_ Hso.out (by omega) (by omega)).mono ?_
      rintro e w8 ⟨rfl, hb8⟩
      rw [Gp.out]
      replace hB := hB.trans (hb8.mono hB.size)
      replace hx := hx.bel hb8
      clear q0 q1 q2 q3 q4 q5 q6 q7 q8 q9 hb8 k84
      by_cases hge : n ≤ s.crop + r
      · have i3 : s.crop + r ≥ n := hge
        go_wp2_with fail
        go_ret
        exact ⟨rfl, hB⟩
      · have i3 : ¬ n ≤ s.crop + r := hge
        have Gs := hide (G1.out (s.crop + r) (by omega) (by omega))
        go_wp2_with fail
        refine (sneed1_any s b2 (s.crop + r) w8 hx.at_ Hso.out (by omega) (by omega)).mono ?_
        rintro e wl ⟨rfl, hbl⟩
        rw [Gs.out]
        replace hB := hB.trans (hbl.mono hB.size)
        clear hbl
        go_wp2_with fail
        go_ret
        exact ⟨rfl, hB⟩
    · have i3 : s.crop + r ≥ n := by omega
      go_wp2_with fail
      go_ret
      exact ⟨rfl, hB⟩
  · rw [hn]
    have G1 := hide g1
    clear hn g1
    go_upto_region 8 with fail
    go_quiet (fail)
    replace hx := hx.bel (below_drewN (Below.refl _ _) nq)
    replace hB := below_drewN hB nq
    obtain ⟨w6, hw6⟩ : ∃ w6, Hid (w5.drewN nq = w6) := ⟨_, hide rfl⟩
    rw [hw6.out] at hx hB ⊢
    clear q0 q1 q2 q3 q4 q5 q6 q7 q8 q9 t1 nz fm hw6
    go_wp2_with fail
    refine (sneed1_any s b2 (s.crop + r) w6 hx.at_ Hso.out (by omega) (by omega)).mono ?_
    rintro e w7 ⟨rfl, hb7⟩
    rw [G1.out _ (by omega) (by omega)]
    replace hB := hB.trans (hb7.mono hB.size)
    replace hx := hx.bel hb7
    clear hb7
    obtain ⟨q0, q1, q2, q3, q4, q5, q6, q7, q8, q9⟩ := hx.at_.c10
    go_wp2_with fail
    refine (sneed1_any s b2 s.crop w7 hx.at_ Hso.out (by omega) (by omega)).mono ?_
    rintro e w8 ⟨rfl, hb8⟩
    rw [G1.out _ (by omega) (by omega)]
    replace hB := hB.trans (hb8.mono hB.size)
    replace hx := hx.bel hb8
    clear q0 q1 q2 q3 q4 q5 q6 q7 q8 q9 hb8
    go_wp2_with fail
    refine (sneed1_any s b2 1000000000 w8 hx.at_ Hso.out (by omega) (by omega)).mono ?_
    rintro e w9 ⟨rfl, hb9⟩
    rw [G1.out _ (by omega) (by omega)]
    replace hB := hB.trans (hb9.mono hB.size)
    clear hb9
    go_wp2_with fail
    go_ret
    exact ⟨rfl, hB⟩
set_option maxRecDepth 100000 in
theorem saltNeed_lifted (os : Os) (started : os.Started) (H : Type) (enc : TypeId × Value → H) :
    ReturnsInHanded {} Try.checked os 7 .any (Rows.saltNeedSpec.pre6 enc Try.prog Try.f7 Rows.saltNeedRow.domain false) (Rows.saltNeedSpec.post enc Try.prog Try.f7 false true false false) := by
  refine law_lifted os started H enc (s := Rows.saltNeedSpec) Try.func7 (by kernel_rfl) ?_ rfl Try.underlying4 rfl (of_decide_eq_true (by kernel_rfl))
    (ChangeSpec.witness6 (enc := enc) (C := Try.checked) false ⟨#[], #[.agg #[.int .i64 0, .int .i64 0, .int .i64 0, .int .i64 0, .int .i64 0, .int .i64 0, .int .i64 0, .int .i64 0, .int .i64 0, .int .i64 0], .int .u32 0], []⟩ 8 (by kernel_rfl) (by kernel_rfl) (by kernel_rfl) (by kernel_rfl)) ?_
  · intro ds hds
    match ds, hds with
    | [a, b], _ => rfl
  · intro W base args ds ps hval hA hlt
    rw [Try.params7] at hA hval
    obtain ⟨v0, v1, d0, d1, p0, p1, rfl, rfl, rfl, h0, h1⟩ := trodAll_two hA
    obtain ⟨s, rfl, _⟩ := open_val shape_so Try.underlying25 (hval 0 _ v0 rfl rfl) h0
    obtain ⟨ot, rfl, hot⟩ := open_u32 (hval 1 _ v1 rfl rfl) h1
    exact sneed_walk s ot W hot

theorem saltNeed_holds : Rows.SaltNeedSaid :=
  OpenClaim.holds_of_wide 7 Try.f7 rfl rfl rfl rfl rfl rfl rfl ⟨rfl, rfl, rfl, rfl, rfl⟩ rfl rfl rfl rfl rfl (by kernel_rfl) Try.func7 (by kernel_rfl)
    (of_decide_eq_true (by kernel_rfl)) (by unfold Func.isWrapper; rw [if_neg (of_decide_eq_false (by kernel_rfl))]; exact ⟨rfl, rfl⟩)
    (fun os started H enc _ => saltNeed_lifted os started H enc)
#print axioms saltNeed_holds
end Go.Proofs.Ytmbhnjpaieimbaa
