/- SaltTrue: whatever is in the soil and the water, the salt lies in the span that is told after each cycle. The law returns true for every soil, water, number of cycles and numbers that say what is so. No conditions. -/
import Derived.Test.YtmbhnjpaieimbaaSA1
import Derived.Test.YtmbhnjpaieimbaaSA2
import Derived.Test.YtmbhnjpaieimbaaPBH
import Derived.Test.YtmbhnjpaieimbaaOpenS
import Derived.Deep.Cut
set_option linter.unusedVariables false
set_option linter.unusedSimpArgs false
namespace Go.Proofs.Ytmbhnjpaieimbaa
open Go.RowKit Go.Shelf Go.WideShapes Go.ChangeShapes Go.ChangeAt
attribute [local go_sem] ite_min ite_max
theorem ite_max2 (a b : Int) : (if b < a then a - b else 0) = max 0 (a - b) := by rw [Int.max_def]; split <;> split <;> omega
attribute [local go_sem] ite_max2
/-- The bounds of a right soil. -/
structure SoB (s : So) : Prop where
  a0l : 0 ≤ s.salt.lo
  a01 : s.salt.lo ≤ s.salt.hi
  a1h : s.salt.hi ≤ 1000000000000
  m0l : 0 ≤ s.mineral.lo
  m01 : s.mineral.lo ≤ s.mineral.hi
  m1h : s.mineral.hi ≤ 100000
  w0l : 0 ≤ s.wash.lo
  w01 : s.wash.lo ≤ s.wash.hi
  w1h : s.wash.hi ≤ 100000
  r0l : 0 ≤ s.rise.lo
  r01 : s.rise.lo ≤ s.rise.hi
  r1h : s.rise.hi ≤ 100000000
  crl : 0 ≤ s.crop
  crh : s.crop ≤ 1000000000
  a1k : s.salt.hi ≤ 100000000
  lil : 0 ≤ s.limit
  lih : s.limit ≤ 100000000
theorem SoB.of {s : So} (h : soOk s = true) : SoB s := by
  simp [soOk, Sp.ok, inB] at h
  constructor <;> omega
set_option maxHeartbeats 40000000 in
set_option maxRecDepth 100000 in
theorem strue_walk (s : So) (wa : Sp) (cy : Nat) (A : Option Addr) (bys : List Nat) (nb cb : Nat) (w : World) (hcy : cy ≤ 255) (hnb : nb = bys.length) (hnb2 : nb ≤ 9223372036854775807) (hby : Rd w w.heap.size u32cell A bys) (h32 : ∀ x ∈ bys, x ≤ 4294967295) :
    Calls Try.prog 6 #[.agg #[.int .i64 s.salt.lo, .int .i64 s.salt.hi, .int .i64 s.limit, .int .i64 s.crop, .int .i64 s.mineral.lo, .int .i64 s.mineral.hi, .int .i64 s.wash.lo, .int .i64 s.wash.hi, .int .i64 s.rise.lo, .int .i64 s.rise.hi], .agg #[.int .i64 wa.lo, .int .i64 wa.hi], .int .u8 (cy : Int), .slice A nb cb] w fun e w' => e = .returned (.bool true) ∧ Below w.heap.size w w' := by
  obtain ⟨b4, w1, e4, ew1, hx4, hb1, hz1⟩ := mk_bx w #[.int .i64 s.salt.lo, .int .i64 s.salt.hi, .int .i64 s.limit, .int .i64 s.crop, .int .i64 s.mineral.lo, .int .i64 s.mineral.hi, .int .i64 s.wash.lo, .int .i64 s.wash.hi, .int .i64 s.rise.lo, .int .i64 s.rise.hi] 25
  obtain ⟨b5, w2, e5, ew2, hx5, hb2, hz2⟩ := mk_bx w1 #[.int .i64 wa.lo, .int .i64 wa.hi] 23
  have e45 : b4 + 1 = b5 := by have := e5.out; omega
  have hB2 := hb1.trans (hb2.mono hb1.size)
  have Hnb := hide hnb; have H32 := hide h32
  have rby := hby.bel hB2
  replace hx4 := hx4.bel hb2
  clear hnb h32 hby hz1 hz2 hb1 hb2
  go_enter Try.func6, Try.ntmps6
  go_wp2_with fail
  rw [ew1.out, e4.out, e45, ew2.out]
  refine (salive_any _).mono ?_
  rintro e w3 ⟨rfl, hb3⟩
  have hB3 := hB2.trans (hb3.mono hB2.size)
  replace hx4 := hx4.bel hb3; replace hx5 := hx5.bel hb3; replace rby := rby.bel hb3
  obtain ⟨q0, q1, q2, q3, q4, q5, q6, q7, q8, q9⟩ := hx4.at_.c10
  clear hb3 hB2
  go_wp2_with fail
  refine (show Calls Try.prog 19 _ _ (fun e w' => e = .returned (.int .i64 (soCheck s)) ∧ Below w3.heap.size w3 w') from ref06_check _ _ _ _ _ _ _ _ _ _ _).mono ?_
  rintro e w4 ⟨rfl, hb4⟩
  have hB4 := hB3.trans (hb4.mono hB3.size)
  replace hx4 := hx4.bel hb4; replace hx5 := hx5.bel hb4; replace rby := rby.bel hb4
  clear q0 q1 q2 q3 q4 q5 q6 q7 q8 q9 hB3 hb4
  cases hso : soOk s
  · have hce : soCheck s = 60 := by simp [soCheck, hso]
    rw [hce]
    clear hso hce
    go_wp2_with fail
    go_ret
    exact ⟨rfl, hB4⟩
  have hce : soCheck s = 0 := by simp [soCheck, hso]
  rw [hce]
  have Hso := hide hso
  have F := SoB.of hso
  clear hso hce
  obtain ⟨p0, p1⟩ := hx5.at_.c2
  go_wp2_with fail
  refine (spanned_any _ _ _ _ _).mono ?_
  rintro e w5 ⟨rfl, hb5⟩
  have hB5 := hB4.trans (hb5.mono hB4.size)
  replace hx4 := hx4.bel hb5; replace hx5 := hx5.bel hb5; replace rby := rby.bel hb5
  clear p0 p1 hB4 hb5
  cases hwa : Sp.ok 0 1000000000 ⟨wa.lo, wa.hi⟩
  · clear hwa
    go_wp2_with fail
    go_ret
    exact ⟨rfl, hB5⟩
  have Hwa := hide hwa
  have hwb : 0 ≤ wa.lo ∧ wa.lo ≤ wa.hi ∧ wa.hi ≤ 1000000000 := by
    simp [Sp.ok, inB] at hwa; omega
  clear hwa
  by_cases hc40 : cy ≤ 40
  · have t1 : ¬ (40 : Int) < (cy : Int) := by omega
    have t2 : decide ((40 : Int) < (cy : Int)) = false := decide_eq_false t1
    have k36 : IntKind.i64.wrap (cy : Int) = cy := wrapI (by omega)
    obtain ⟨q0, q1, q2, q3, q4, q5, q6, q7, q8, q9⟩ := hx4.at_.c10
    obtain ⟨p0, p1⟩ := hx5.at_.c2
    go_wp2_with fail
    refine (show Calls Try.prog 14 _ _ (fun e w' => ∃ v, e = .returned (.tuple #[v, .int .i64 (afterE s wa cy)]) ∧ Own w' w5.heap.size 23 2 Sp.cells v (afterV s wa cy) ∧ Below w5.heap.size w5 w') from after_fn _ _ _ _ _ _ _ _ _ _ _ _ _ _).mono ?_
    rintro e w6 ⟨v, rfl, ho, hb6⟩
    have hAE : afterE s wa cy = 0 := by
      unfold afterE; rw [if_pos Hso.out, if_pos]; simp [inB]; exact ⟨Hwa.out, by omega⟩
    have hAV : afterV s wa cy = afterL s wa cy := by
      unfold afterV; rw [if_pos]
      · simp
      · simp [afterOk, inB]; exact ⟨Hso.out, Hwa.out, by omega⟩
    rw [hAV] at ho
    rw [hAE]
    obtain ⟨Al, cl, rfl, rl⟩ := ho.rdn cy (afterL_len _ _ _)
    have hB6 := hB5.trans (hb6.mono hB5.size)
    have X4 := hide (hx4.bel hb6); have X5 := hide (hx5.bel hb6); replace rby := rby.bel hb6
    clear ho hAV hAE hx4 hx5 hB5 hb6 q0 q1 q2 q3 q4 q5 q6 q7 q8 q9 p0 p1 t1 t2 k36
    go_wp2_with fail
    refine wp_region_held_drew (S := (fun W => Below w6.heap.size w6 W)) (by kernel_rfl) (by (try dsimp only); exact (Below.refl _ _).drew) (fun hHeld => ?_)
    generalize World.drew w6 = Wd9 at hHeld ⊢
    have rby := rby.bel hHeld
    have hbc := Below.refl Wd9.heap.size Wd9
    refine wpAnyH_take (i := 0) (oi := ⟨_, _, _, _, _, _⟩) (v := ?_) rfl (by kernel_rfl) (by kernel_rfl) (by kernel_rfl) (fun _ _ _ h => h) (Or.inl ⟨by rfl, ?_⟩) hHeld ?_
    rotate_left
    · (intro w hSw; (try dsimp only at hSw); go_simp; try (with_reducible rfl))
    try simp only [Act.put, List.setIfInBounds_toArray, List.set_cons_zero, List.set_cons_succ]
    refine wpAnyH_take (i := 1) (oi := ⟨_, _, _, _, _, _⟩) (v := ?_) rfl (by kernel_rfl) (by kernel_rfl) (by kernel_rfl) (fun _ _ _ h => h) (Or.inl ⟨by rfl, ?_⟩) hHeld ?_
    rotate_left
    · (intro w hSw; (try dsimp only at hSw); obtain ⟨q0, q1, q2, q3, q4, q5, q6, q7, q8, q9⟩ := (X4.out.bel (hSw)).at_.c10; obtain ⟨p0, p1⟩ := (X5.out.bel (hSw)).at_.c2; go_simp; try (with_reducible rfl))
    try simp only [Act.put, List.setIfInBounds_toArray, List.set_cons_zero, List.set_cons_succ]
    refine wpAnyH_take (i := 2) (oi := ⟨_, _, _, _, _, _⟩) (v := ?_) rfl (by kernel_rfl) (by kernel_rfl) (by kernel_rfl) (fun _ _ _ h => h) (Or.inl ⟨by rfl, ?_⟩) hHeld ?_
    rotate_left
    · (intro w hSw; (try dsimp only at hSw); go_simp; try (with_reducible rfl))
    try simp only [Act.put, List.setIfInBounds_toArray, List.set_cons_zero, List.set_cons_succ]
    refine wpAnyH_ready (rs := [3]) (by kernel_rfl) (by simp) ?_
    refine AllReadyH.cons (o := ⟨_, _, _, _, _, _⟩) rfl (fun K hK => ?_) AllReadyH.nil
    go_simp
    refine (sat_any A nb cb bys 0 _ Hnb.out H32.out rby hnb2 (by omega) (by omega)).mono ?_
    rintro e V52 ⟨m52, rfl, hm52, hb⟩
    go_wp2_with fail
    have hHeldN := hHeld.trans (hb.mono hHeld.size)
    have rby := rby.bel hb
    have hbc := hbc.trans (hb.mono hbc.size)
    refine hK.out _ _ ?_ (fun hHeld2 => ?_)
    · exact hHeldN
    clear hK K hHeld hHeldN hb; have hHeld := hHeld2; clear hHeld2
    try simp only [Act.put, List.setIfInBounds_toArray, List.set_cons_zero, List.set_cons_succ]
    refine wpAnyH_ready (rs := [4]) (by kernel_rfl) (by simp) ?_
    refine AllReadyH.cons (o := ⟨_, _, _, _, _, _⟩) rfl (fun K hK => ?_) AllReadyH.nil
    go_simp
    refine (spickS s.salt m52 _ F.a0l F.a01 F.a1h hm52).mono ?_
    rintro e V53 ⟨r53, rfl, hr53, hb⟩
    have k54 : IntKind.i64.wrap (1000 * r53) = 1000 * r53 := wrapI (by have := hr53.1; have := hr53.2; have := F.a0l; have := F.a1h; omega)
    go_wp2_with fail
    have hHeldN := hHeld.trans (hb.mono hHeld.size)
    have rby := rby.bel hb
    have hbc := hbc.trans (hb.mono hbc.size)
    refine hK.out _ _ ?_ (fun hHeld2 => ?_)
    · exact hHeldN
    clear hK K hHeld hHeldN hb; have hHeld := hHeld2; clear hHeld2
    try simp only [Act.put, List.setIfInBounds_toArray, List.set_cons_zero, List.set_cons_succ]
    refine wpAnyH_take (i := 5) (oi := ⟨_, _, _, _, _, _⟩) (v := ?_) rfl (by kernel_rfl) (by kernel_rfl) (by kernel_rfl) (fun _ _ _ h => h) (Or.inl ⟨by rfl, ?_⟩) hHeld ?_
    rotate_left
    · (intro w hSw; (try dsimp only at hSw); go_simp; try (with_reducible rfl))
    try simp only [Act.put, List.setIfInBounds_toArray, List.set_cons_zero, List.set_cons_succ]
    refine wpAnyH_take (i := 6) (oi := ⟨_, _, _, _, _, _⟩) (v := ?_) rfl (by kernel_rfl) (by kernel_rfl) (by kernel_rfl) (fun _ _ _ h => h) (Or.inl ⟨by rfl, ?_⟩) hHeld ?_
    rotate_left
    · (intro w hSw; (try dsimp only at hSw); go_simp; try (with_reducible rfl))
    try simp only [Act.put, List.setIfInBounds_toArray, List.set_cons_zero, List.set_cons_succ]
    refine wpAnyH_done (by kernel_rfl) ?_ _
    have H0 : Hid (1000 * (saltN s wa 0).lo ≤ 1000 * r53 ∧ 1000 * r53 ≤ 1000 * (saltN s wa 0).hi) := hide (by show 1000 * s.salt.lo ≤ _ ∧ _ ≤ 1000 * s.salt.hi; omega)
    replace X4 := hide (X4.out.bel hHeld); replace X5 := hide (X5.out.bel hHeld); replace rl := rl.bel hHeld
    have hB7 := hB6.trans (hHeld.mono hB6.size)
    obtain ⟨w7, rfl⟩ : ∃ w7, w7 = V53 := ⟨V53, rfl⟩
    have Rl := hide rl; have Rby := hide rby
    have hfit := hide (So.fit_of Hso.out)
    clear rl rby hHeld hbc hB6 k54 hm52
    go_wp2_with fail
    go_loopw [12, 57] (fun now i wr => ∃ (k : Nat) (nw : Int), k ≤ cy ∧ now = .int .i64 nw ∧ i = .int .i64 k ∧ Hid (1000 * (saltN s wa k).lo ≤ nw ∧ nw ≤ 1000 * (saltN s wa k).hi) ∧ Below w7.heap.size w7 wr) (fun _ i _ => cy - (intOf i).toNat)
    case atStart => exact ⟨0, _, by omega, rfl, rfl, H0, Below.refl _ _⟩
    case round =>
      obtain ⟨k, nw, hk, rfl, rfl, hnw, hb⟩ := hrel
      by_cases hlt : k < cy
      · have hbd := saltN_bd hfit.out hwb.1 hwb.2.1 hwb.2.2 k
        have hnb : 0 ≤ nw ∧ nw ≤ 4500000000000000 := by have := hnw.out; omega
        obtain ⟨b3, o3, lo, hi, rfl, hb3, hpk, c4, c5⟩ := (Rl.out.below hb).sp (i := k) (by rw [afterL_len]; exact hlt)
        have hsp : saltN s wa (k + 1) = ⟨lo, hi⟩ := by
          rw [show (afterL s wa cy)[k]? = some (saltN s wa (k + 1)) by simp [afterL, hlt]] at hpk
          exact Option.some.inj hpk
        have hbd1 := saltN_bd hfit.out hwb.1 hwb.2.1 hwb.2.2 (k + 1)
        rw [hsp] at hbd1
        have hlh : (0 ≤ lo ∧ lo ≤ 4500000000000) ∧ 0 ≤ hi ∧ hi ≤ 4500000000000 := by
          have h := hbd1; dsimp only at h; push_cast at h; omega
        obtain ⟨b14, w14, e14, ew14, x14, hbx, _⟩ := mk_bx wr #[.int .i64 lo, .int .i64 hi] 23
        have hbs := hb.trans (hbx.mono hb.size)
        have Y4 := hide (X4.out.bel hbs); have Y5 := hide (X5.out.bel hbs); have rby := Rby.out.bel hbs
        have Hsp := hide hsp; have Hbs := hide hbs
        have ikn : (k : Int) < (cy : Int) := by omega
        have k4 : IntKind.i64.wrap (4 * (k : Int)) = 4 * k := wrapI (by omega)
        have k41 : IntKind.i64.wrap (4 * (k : Int) + 1) = 4 * k + 1 := wrapI (by omega)
        have k42 : IntKind.i64.wrap (4 * (k : Int) + 2) = 4 * k + 2 := wrapI (by omega)
        have k43 : IntKind.i64.wrap (4 * (k : Int) + 3) = 4 * k + 3 := wrapI (by omega)
        have k44 : IntKind.i64.wrap (4 * (k : Int) + 4) = 4 * k + 4 := wrapI (by omega)
        clear hpk hbd hbd1 hsp hbs hbx
        go_upto_region 13 with fail
        rw [ew14.out, e14.out]
        clear c4 c5
        refine wp_region_held_drew (S := (fun W => Below w14.heap.size w14 W)) (by kernel_rfl) (by (try dsimp only); exact (Below.refl _ _).drew) (fun hHeld => ?_)
        generalize World.drew w14 = Wd13 at hHeld ⊢
        have rby := rby.bel hHeld
        have hbc := Below.refl Wd13.heap.size Wd13
        refine wpAnyH_take (i := 0) (oi := ⟨_, _, _, _, _, _⟩) (v := ?_) rfl (by kernel_rfl) (by kernel_rfl) (by kernel_rfl) (fun _ _ _ h => h) (Or.inl ⟨by rfl, ?_⟩) hHeld ?_
        rotate_left
        · (intro w hSw; (try dsimp only at hSw); obtain ⟨q0, q1, q2, q3, q4, q5, q6, q7, q8, q9⟩ := (Y4.out.bel hSw).at_.c10; obtain ⟨p0, p1⟩ := (Y5.out.bel hSw).at_.c2; go_simp; try (with_reducible rfl))
        try simp only [Act.put, List.setIfInBounds_toArray, List.set_cons_zero, List.set_cons_succ]
        refine wpAnyH_take (i := 1) (oi := ⟨_, _, _, _, _, _⟩) (v := ?_) rfl (by kernel_rfl) (by kernel_rfl) (by kernel_rfl) (fun _ _ _ h => h) (Or.inl ⟨by rfl, ?_⟩) hHeld ?_
        rotate_left
        · (intro w hSw; (try dsimp only at hSw); go_simp; try (with_reducible rfl))
        try simp only [Act.put, List.setIfInBounds_toArray, List.set_cons_zero, List.set_cons_succ]
        refine wpAnyH_take (i := 2) (oi := ⟨_, _, _, _, _, _⟩) (v := ?_) rfl (by kernel_rfl) (by kernel_rfl) (by kernel_rfl) (fun _ _ _ h => h) (Or.inl ⟨by rfl, ?_⟩) hHeld ?_
        rotate_left
        · (intro w hSw; (try dsimp only at hSw); go_simp; try (with_reducible rfl))
        try simp only [Act.put, List.setIfInBounds_toArray, List.set_cons_zero, List.set_cons_succ]
        refine wpAnyH_take (i := 3) (oi := ⟨_, _, _, _, _, _⟩) (v := ?_) rfl (by kernel_rfl) (by kernel_rfl) (by kernel_rfl) (fun _ _ _ h => h) (Or.inl ⟨by rfl, ?_⟩) hHeld ?_
        rotate_left
        · (intro w hSw; (try dsimp only at hSw); go_simp; try (with_reducible rfl))
        try simp only [Act.put, List.setIfInBounds_toArray, List.set_cons_zero, List.set_cons_succ]
        refine wpAnyH_take (i := 4) (oi := ⟨_, _, _, _, _, _⟩) (v := ?_) rfl (by kernel_rfl) (by kernel_rfl) (by kernel_rfl) (fun _ _ _ h => h) (Or.inl ⟨by rfl, ?_⟩) hHeld ?_
        rotate_left
        · (intro w hSw; (try dsimp only at hSw); go_simp; try (with_reducible rfl))
        try simp only [Act.put, List.setIfInBounds_toArray, List.set_cons_zero, List.set_cons_succ]
        refine wpAnyH_ready (rs := [5]) (by kernel_rfl) (by simp) ?_
        refine AllReadyH.cons (o := ⟨_, _, _, _, _, _⟩) rfl (fun K hK => ?_) AllReadyH.nil
        go_simp
        refine (sat_any A nb cb bys (4 * (k : Int) + 1) _ Hnb.out H32.out rby hnb2 (by omega) (by omega)).mono ?_
        rintro e V67 ⟨m67, rfl, hm67, hb⟩
        go_wp2_with fail
        have hHeldN := hHeld.trans (hb.mono hHeld.size)
        have rby := rby.bel hb
        have hbc := hbc.trans (hb.mono hbc.size)
        refine hK.out _ _ ?_ (fun hHeld2 => ?_)
        · exact hHeldN
        clear hK K hHeld hHeldN hb; have hHeld := hHeld2; clear hHeld2
        try simp only [Act.put, List.setIfInBounds_toArray, List.set_cons_zero, List.set_cons_succ]
        refine wpAnyH_ready (rs := [6]) (by kernel_rfl) (by simp) ?_
        refine AllReadyH.cons (o := ⟨_, _, _, _, _, _⟩) rfl (fun K hK => ?_) AllReadyH.nil
        go_simp
        refine (spickS wa m67 _ hwb.1 hwb.2.1 (by omega) hm67).mono ?_
        rintro e V68 ⟨r68, rfl, hr68, hb⟩
        have k101 : IntKind.i64.wrap (r68 - s.crop) = r68 - s.crop := wrapI (by have := F.crl; have := F.crh; omega)
        go_wp2_with fail
        have hHeldN := hHeld.trans (hb.mono hHeld.size)
        have rby := rby.bel hb
        have hbc := hbc.trans (hb.mono hbc.size)
        refine hK.out _ _ ?_ (fun hHeld2 => ?_)
        · exact hHeldN
        clear hK K hHeld hHeldN hb; have hHeld := hHeld2; clear hHeld2
        try simp only [Act.put, List.setIfInBounds_toArray, List.set_cons_zero, List.set_cons_succ]
        refine wpAnyH_take (i := 7) (oi := ⟨_, _, _, _, _, _⟩) (v := ?_) rfl (by kernel_rfl) (by kernel_rfl) (by kernel_rfl) (fun _ _ _ h => h) (Or.inl ⟨by rfl, ?_⟩) hHeld ?_
        rotate_left
        · (intro w hSw; (try dsimp only at hSw); go_simp; try (with_reducible rfl))
        try simp only [Act.put, List.setIfInBounds_toArray, List.set_cons_zero, List.set_cons_succ]
        refine wpAnyH_done (by kernel_rfl) ?_ _
        replace x14 := x14.bel hHeld; replace Y4 := hide (Y4.out.bel hHeld); replace Y5 := hide (Y5.out.bel hHeld)
        replace Hbs := hide (Hbs.out.trans (hHeld.mono Hbs.out.size))
        obtain ⟨w15, rfl⟩ : ∃ w15, w15 = V68 := ⟨V68, rfl⟩
        clear hHeld hbc
        go_upto_region 14 with fail
        refine wp_region_held_drew (S := (fun W => Below w15.heap.size w15 W)) (by kernel_rfl) (by (try dsimp only); exact (Below.refl _ _).drew) (fun hHeld => ?_)
        generalize World.drew w15 = Wd14 at hHeld ⊢
        have rby := rby.bel hHeld
        have hbc := Below.refl Wd14.heap.size Wd14
        refine wpAnyH_take (i := 0) (oi := ⟨_, _, _, _, _, _⟩) (v := ?_) rfl (by kernel_rfl) (by kernel_rfl) (by kernel_rfl) (fun _ _ _ h => h) (Or.inl ⟨by rfl, ?_⟩) hHeld ?_
        rotate_left
        · (intro w hSw; (try dsimp only at hSw); go_simp; try (with_reducible rfl))
        try simp only [Act.put, List.setIfInBounds_toArray, List.set_cons_zero, List.set_cons_succ]
        refine wpAnyH_take (i := 1) (oi := ⟨_, _, _, _, _, _⟩) (v := ?_) rfl (by kernel_rfl) (by kernel_rfl) (by kernel_rfl) (fun _ _ _ h => h) (Or.inl ⟨by rfl, ?_⟩) hHeld ?_
        rotate_left
        · (intro w hSw; (try dsimp only at hSw); go_simp; try (with_reducible rfl))
        try simp only [Act.put, List.setIfInBounds_toArray, List.set_cons_zero, List.set_cons_succ]
        refine wpAnyH_take (i := 2) (oi := ⟨_, _, _, _, _, _⟩) (v := ?_) rfl (by kernel_rfl) (by kernel_rfl) (by kernel_rfl) (fun _ _ _ h => h) (Or.inl ⟨by rfl, ?_⟩) hHeld ?_
        rotate_left
        · (intro w hSw; (try dsimp only at hSw); go_simp; try (with_reducible rfl))
        try simp only [Act.put, List.setIfInBounds_toArray, List.set_cons_zero, List.set_cons_succ]
        refine wpAnyH_take (i := 3) (oi := ⟨_, _, _, _, _, _⟩) (v := ?_) rfl (by kernel_rfl) (by kernel_rfl) (by kernel_rfl) (fun _ _ _ h => h) (Or.inl ⟨by rfl, ?_⟩) hHeld ?_
        rotate_left
        · (intro w hSw; (try dsimp only at hSw); obtain ⟨q0, q1, q2, q3, q4, q5, q6, q7, q8, q9⟩ := (Y4.out.bel hSw).at_.c10; obtain ⟨p0, p1⟩ := (Y5.out.bel hSw).at_.c2; go_simp; try (with_reducible rfl))
        try simp only [Act.put, List.setIfInBounds_toArray, List.set_cons_zero, List.set_cons_succ]
        refine wpAnyH_take (i := 4) (oi := ⟨_, _, _, _, _, _⟩) (v := ?_) rfl (by kernel_rfl) (by kernel_rfl) (by kernel_rfl) (fun _ _ _ h => h) (Or.inl ⟨by rfl, ?_⟩) hHeld ?_
        rotate_left
        · (intro w hSw; (try dsimp only at hSw); go_simp; try (with_reducible rfl))
        try simp only [Act.put, List.setIfInBounds_toArray, List.set_cons_zero, List.set_cons_succ]
        refine wpAnyH_take (i := 5) (oi := ⟨_, _, _, _, _, _⟩) (v := ?_) rfl (by kernel_rfl) (by kernel_rfl) (by kernel_rfl) (fun _ _ _ h => h) (Or.inl ⟨by rfl, ?_⟩) hHeld ?_
        rotate_left
        · (intro w hSw; (try dsimp only at hSw); go_simp; try (with_reducible rfl))
        try simp only [Act.put, List.setIfInBounds_toArray, List.set_cons_zero, List.set_cons_succ]
        refine wpAnyH_take (i := 6) (oi := ⟨_, _, _, _, _, _⟩) (v := ?_) rfl (by kernel_rfl) (by kernel_rfl) (by kernel_rfl) (fun _ _ _ h => h) (Or.inl ⟨by rfl, ?_⟩) hHeld ?_
        rotate_left
        · (intro w hSw; (try dsimp only at hSw); go_simp; try (with_reducible rfl))
        try simp only [Act.put, List.setIfInBounds_toArray, List.set_cons_zero, List.set_cons_succ]
        refine wpAnyH_take (i := 7) (oi := ⟨_, _, _, _, _, _⟩) (v := ?_) rfl (by kernel_rfl) (by kernel_rfl) (by kernel_rfl) (fun _ _ _ h => h) (Or.inl ⟨by rfl, ?_⟩) hHeld ?_
        rotate_left
        · (intro w hSw; (try dsimp only at hSw); go_simp; try (with_reducible rfl))
        try simp only [Act.put, List.setIfInBounds_toArray, List.set_cons_zero, List.set_cons_succ]
        refine wpAnyH_take (i := 11) (oi := ⟨_, _, _, _, _, _⟩) (v := ?_) rfl (by kernel_rfl) (by kernel_rfl) (by kernel_rfl) (fun _ _ _ h => h) (Or.inl ⟨by rfl, ?_⟩) hHeld ?_
        rotate_left
        · (intro w hSw; (try dsimp only at hSw); go_simp; try (with_reducible rfl))
        try simp only [Act.put, List.setIfInBounds_toArray, List.set_cons_zero, List.set_cons_succ]
        refine wpAnyH_take (i := 12) (oi := ⟨_, _, _, _, _, _⟩) (v := ?_) rfl (by kernel_rfl) (by kernel_rfl) (by kernel_rfl) (fun _ _ _ h => h) (Or.inl ⟨by rfl, ?_⟩) hHeld ?_
        rotate_left
        · (intro w hSw; (try dsimp only at hSw); obtain ⟨q0, q1, q2, q3, q4, q5, q6, q7, q8, q9⟩ := (Y4.out.bel hSw).at_.c10; obtain ⟨p0, p1⟩ := (Y5.out.bel hSw).at_.c2; go_simp; try (with_reducible rfl))
        try simp only [Act.put, List.setIfInBounds_toArray, List.set_cons_zero, List.set_cons_succ]
        refine wpAnyH_take (i := 13) (oi := ⟨_, _, _, _, _, _⟩) (v := ?_) rfl (by kernel_rfl) (by kernel_rfl) (by kernel_rfl) (fun _ _ _ h => h) (Or.inl ⟨by rfl, ?_⟩) hHeld ?_
        rotate_left
        · (intro w hSw; (try dsimp only at hSw); go_simp; try (with_reducible rfl))
        try simp only [Act.put, List.setIfInBounds_toArray, List.set_cons_zero, List.set_cons_succ]
        refine wpAnyH_take (i := 14) (oi := ⟨_, _, _, _, _, _⟩) (v := ?_) rfl (by kernel_rfl) (by kernel_rfl) (by kernel_rfl) (fun _ _ _ h => h) (Or.inl ⟨by rfl, ?_⟩) hHeld ?_
        rotate_left
        · (intro w hSw; (try dsimp only at hSw); go_simp; try (with_reducible rfl))
        try simp only [Act.put, List.setIfInBounds_toArray, List.set_cons_zero, List.set_cons_succ]
        refine wpAnyH_take (i := 15) (oi := ⟨_, _, _, _, _, _⟩) (v := ?_) rfl (by kernel_rfl) (by kernel_rfl) (by kernel_rfl) (fun _ _ _ h => h) (Or.inl ⟨by rfl, ?_⟩) hHeld ?_
        rotate_left
        · (intro w hSw; (try dsimp only at hSw); go_simp; try (with_reducible rfl))
        try simp only [Act.put, List.setIfInBounds_toArray, List.set_cons_zero, List.set_cons_succ]
        refine wpAnyH_take (i := 16) (oi := ⟨_, _, _, _, _, _⟩) (v := ?_) rfl (by kernel_rfl) (by kernel_rfl) (by kernel_rfl) (fun _ _ _ h => h) (Or.inl ⟨by rfl, ?_⟩) hHeld ?_
        rotate_left
        · (intro w hSw; (try dsimp only at hSw); go_simp; try (with_reducible rfl))
        try simp only [Act.put, List.setIfInBounds_toArray, List.set_cons_zero, List.set_cons_succ]
        refine wpAnyH_take (i := 21) (oi := ⟨_, _, _, _, _, _⟩) (v := ?_) rfl (by kernel_rfl) (by kernel_rfl) (by kernel_rfl) (fun _ _ _ h => h) (Or.inl ⟨by rfl, ?_⟩) hHeld ?_
        rotate_left
        · (intro w hSw; (try dsimp only at hSw); go_simp; try (with_reducible rfl))
        try simp only [Act.put, List.setIfInBounds_toArray, List.set_cons_zero, List.set_cons_succ]
        refine wpAnyH_take (i := 22) (oi := ⟨_, _, _, _, _, _⟩) (v := ?_) rfl (by kernel_rfl) (by kernel_rfl) (by kernel_rfl) (fun _ _ _ h => h) (Or.inl ⟨by rfl, ?_⟩) hHeld ?_
        rotate_left
        · (intro w hSw; (try dsimp only at hSw); obtain ⟨q0, q1, q2, q3, q4, q5, q6, q7, q8, q9⟩ := (Y4.out.bel hSw).at_.c10; obtain ⟨p0, p1⟩ := (Y5.out.bel hSw).at_.c2; go_simp; try (with_reducible rfl))
        try simp only [Act.put, List.setIfInBounds_toArray, List.set_cons_zero, List.set_cons_succ]
        refine wpAnyH_take (i := 23) (oi := ⟨_, _, _, _, _, _⟩) (v := ?_) rfl (by kernel_rfl) (by kernel_rfl) (by kernel_rfl) (fun _ _ _ h => h) (Or.inl ⟨by rfl, ?_⟩) hHeld ?_
        rotate_left
        · (intro w hSw; (try dsimp only at hSw); go_simp; try (with_reducible rfl))
        try simp only [Act.put, List.setIfInBounds_toArray, List.set_cons_zero, List.set_cons_succ]
        refine wpAnyH_take (i := 24) (oi := ⟨_, _, _, _, _, _⟩) (v := ?_) rfl (by kernel_rfl) (by kernel_rfl) (by kernel_rfl) (fun _ _ _ h => h) (Or.inl ⟨by rfl, ?_⟩) hHeld ?_
        rotate_left
        · (intro w hSw; (try dsimp only at hSw); go_simp; try (with_reducible rfl))
        try simp only [Act.put, List.setIfInBounds_toArray, List.set_cons_zero, List.set_cons_succ]
        refine wpAnyH_take (i := 25) (oi := ⟨_, _, _, _, _, _⟩) (v := ?_) rfl (by kernel_rfl) (by kernel_rfl) (by kernel_rfl) (fun _ _ _ h => h) (Or.inl ⟨by rfl, ?_⟩) hHeld ?_
        rotate_left
        · (intro w hSw; (try dsimp only at hSw); go_simp; try (with_reducible rfl))
        try simp only [Act.put, List.setIfInBounds_toArray, List.set_cons_zero, List.set_cons_succ]
        refine wpAnyH_take (i := 26) (oi := ⟨_, _, _, _, _, _⟩) (v := ?_) rfl (by kernel_rfl) (by kernel_rfl) (by kernel_rfl) (fun _ _ _ h => h) (Or.inl ⟨by rfl, ?_⟩) hHeld ?_
        rotate_left
        · (intro w hSw; (try dsimp only at hSw); go_simp; try (with_reducible rfl))
        try simp only [Act.put, List.setIfInBounds_toArray, List.set_cons_zero, List.set_cons_succ]
        refine wpAnyH_take (i := 29) (oi := ⟨_, _, _, _, _, _⟩) (v := ?_) rfl (by kernel_rfl) (by kernel_rfl) (by kernel_rfl) (fun _ _ _ h => h) (Or.inl ⟨by rfl, ?_⟩) hHeld ?_
        rotate_left
        · (intro w hSw; (try dsimp only at hSw); go_simp; try (with_reducible rfl))
        try simp only [Act.put, List.setIfInBounds_toArray, List.set_cons_zero, List.set_cons_succ]
        refine wpAnyH_take (i := 30) (oi := ⟨_, _, _, _, _, _⟩) (v := ?_) rfl (by kernel_rfl) (by kernel_rfl) (by kernel_rfl) (fun _ _ _ h => h) (Or.inl ⟨by rfl, ?_⟩) hHeld ?_
        rotate_left
        · (intro w hSw; (try dsimp only at hSw); go_simp; try (with_reducible rfl))
        try simp only [Act.put, List.setIfInBounds_toArray, List.set_cons_zero, List.set_cons_succ]
        refine wpAnyH_take (i := 31) (oi := ⟨_, _, _, _, _, _⟩) (v := ?_) rfl (by kernel_rfl) (by kernel_rfl) (by kernel_rfl) (fun _ _ _ h => h) (Or.inl ⟨by rfl, ?_⟩) hHeld ?_
        rotate_left
        · (intro w hSw; (try dsimp only at hSw); obtain ⟨q0, q1, q2, q3, q4, q5, q6, q7, q8, q9⟩ := (Y4.out.bel hSw).at_.c10; obtain ⟨p0, p1⟩ := (Y5.out.bel hSw).at_.c2; go_simp; try (with_reducible rfl))
        try simp only [Act.put, List.setIfInBounds_toArray, List.set_cons_zero, List.set_cons_succ]
        refine wpAnyH_take (i := 32) (oi := ⟨_, _, _, _, _, _⟩) (v := ?_) rfl (by kernel_rfl) (by kernel_rfl) (by kernel_rfl) (fun _ _ _ h => h) (Or.inl ⟨by rfl, ?_⟩) hHeld ?_
        rotate_left
        · (intro w hSw; (try dsimp only at hSw); go_simp; try (with_reducible rfl))
        try simp only [Act.put, List.setIfInBounds_toArray, List.set_cons_zero, List.set_cons_succ]
        refine wpAnyH_take (i := 33) (oi := ⟨_, _, _, _, _, _⟩) (v := ?_) rfl (by kernel_rfl) (by kernel_rfl) (by kernel_rfl) (fun _ _ _ h => h) (Or.inl ⟨by rfl, ?_⟩) hHeld ?_
        rotate_left
        · (intro w hSw; (try dsimp only at hSw); go_simp; try (with_reducible rfl))
        try simp only [Act.put, List.setIfInBounds_toArray, List.set_cons_zero, List.set_cons_succ]
        refine wpAnyH_ready (rs := [8]) (by kernel_rfl) (by simp) ?_
        refine AllReadyH.cons (o := ⟨_, _, _, _, _, _⟩) rfl (fun K hK => ?_) AllReadyH.nil
        go_simp
        refine (sat_any A nb cb bys (4 * (k : Int) + 2) _ Hnb.out H32.out rby hnb2 (by omega) (by omega)).mono ?_
        rintro e V77 ⟨m77, rfl, hm77, hb⟩
        go_wp2_with fail
        have hHeldN := hHeld.trans (hb.mono hHeld.size)
        have rby := rby.bel hb
        have hbc := hbc.trans (hb.mono hbc.size)
        refine hK.out _ _ ?_ (fun hHeld2 => ?_)
        · exact hHeldN
        clear hK K hHeld hHeldN hb; have hHeld := hHeld2; clear hHeld2
        try simp only [Act.put, List.setIfInBounds_toArray, List.set_cons_zero, List.set_cons_succ]
        refine wpAnyH_ready (rs := [9]) (by kernel_rfl) (by simp) ?_
        refine AllReadyH.cons (o := ⟨_, _, _, _, _, _⟩) rfl (fun K hK => ?_) AllReadyH.nil
        go_simp
        refine (spickS s.mineral m77 _ F.m0l F.m01 (by have := F.m1h; omega) hm77).mono ?_
        rintro e V78 ⟨r78, rfl, hr78, hb⟩
        obtain ⟨P, hP⟩ : ∃ P, P = r68 * r78 := ⟨_, rfl⟩
        have hPb : 0 ≤ P ∧ P ≤ 100000000000000 := by rw [hP]; have := prod_le (a := r68) (b := r78) (A := 1000000000) (B := 100000) (by omega) (by have := F.m0l; omega) (by omega) (by have := F.m1h; omega); omega
        have k79 : IntKind.i64.wrap (r68 * r78) = P := by rw [← hP]; exact wrapI (by omega)
        have HP := hide hP; clear hP
        go_wp2_with fail
        have hHeldN := hHeld.trans (hb.mono hHeld.size)
        have rby := rby.bel hb
        have hbc := hbc.trans (hb.mono hbc.size)
        refine hK.out _ _ ?_ (fun hHeld2 => ?_)
        · exact hHeldN
        clear hK K hHeld hHeldN hb; have hHeld := hHeld2; clear hHeld2
        try simp only [Act.put, List.setIfInBounds_toArray, List.set_cons_zero, List.set_cons_succ]
        refine wpAnyH_take (i := 10) (oi := ⟨_, _, _, _, _, _⟩) (v := ?_) rfl (by kernel_rfl) (by kernel_rfl) (by kernel_rfl) (fun _ _ _ h => h) (Or.inl ⟨by rfl, ?_⟩) hHeld ?_
        rotate_left
        · (intro w hSw; (try dsimp only at hSw); go_simp; try (with_reducible rfl))
        try simp only [Act.put, List.setIfInBounds_toArray, List.set_cons_zero, List.set_cons_succ]
        refine wpAnyH_ready (rs := [17]) (by kernel_rfl) (by simp) ?_
        refine AllReadyH.cons (o := ⟨_, _, _, _, _, _⟩) rfl (fun K hK => ?_) AllReadyH.nil
        go_simp
        refine (sat_any A nb cb bys (4 * (k : Int) + 3) _ Hnb.out H32.out rby hnb2 (by omega) (by omega)).mono ?_
        rintro e V86 ⟨m86, rfl, hm86, hb⟩
        go_wp2_with fail
        have hHeldN := hHeld.trans (hb.mono hHeld.size)
        have rby := rby.bel hb
        have hbc := hbc.trans (hb.mono hbc.size)
        refine hK.out _ _ ?_ (fun hHeld2 => ?_)
        · exact hHeldN
        clear hK K hHeld hHeldN hb; have hHeld := hHeld2; clear hHeld2
        try simp only [Act.put, List.setIfInBounds_toArray, List.set_cons_zero, List.set_cons_succ]
        refine wpAnyH_ready (rs := [18]) (by kernel_rfl) (by simp) ?_
        refine AllReadyH.cons (o := ⟨_, _, _, _, _, _⟩) rfl (fun K hK => ?_) AllReadyH.nil
        go_simp
        refine (spickS s.rise m86 _ F.r0l F.r01 (by have := F.r1h; omega) hm86).mono ?_
        rintro e V87 ⟨r87, rfl, hr87, hb⟩
        have k88 : IntKind.i64.wrap (1000 * r87) = 1000 * r87 := wrapI (by have := F.r0l; have := F.r1h; omega)
        have k89 : IntKind.i64.wrap (P + 1000 * r87) = P + 1000 * r87 := wrapI (by have := F.r0l; have := F.r1h; omega)
        go_wp2_with fail
        have hHeldN := hHeld.trans (hb.mono hHeld.size)
        have rby := rby.bel hb
        have hbc := hbc.trans (hb.mono hbc.size)
        refine hK.out _ _ ?_ (fun hHeld2 => ?_)
        · exact hHeldN
        clear hK K hHeld hHeldN hb; have hHeld := hHeld2; clear hHeld2
        try simp only [Act.put, List.setIfInBounds_toArray, List.set_cons_zero, List.set_cons_succ]
        refine wpAnyH_take (i := 19) (oi := ⟨_, _, _, _, _, _⟩) (v := ?_) rfl (by kernel_rfl) (by kernel_rfl) (by kernel_rfl) (fun _ _ _ h => h) (Or.inl ⟨by rfl, ?_⟩) hHeld ?_
        rotate_left
        · (intro w hSw; (try dsimp only at hSw); go_simp; try (with_reducible rfl))
        try simp only [Act.put, List.setIfInBounds_toArray, List.set_cons_zero, List.set_cons_succ]
        refine wpAnyH_take (i := 20) (oi := ⟨_, _, _, _, _, _⟩) (v := ?_) rfl (by kernel_rfl) (by kernel_rfl) (by kernel_rfl) (fun _ _ _ h => h) (Or.inl ⟨by rfl, ?_⟩) hHeld ?_
        rotate_left
        · (intro w hSw; (try dsimp only at hSw); go_simp; try (with_reducible rfl))
        try simp only [Act.put, List.setIfInBounds_toArray, List.set_cons_zero, List.set_cons_succ]
        refine wpAnyH_ready (rs := [27]) (by kernel_rfl) (by simp) ?_
        refine AllReadyH.cons (o := ⟨_, _, _, _, _, _⟩) rfl (fun K hK => ?_) AllReadyH.nil
        go_simp
        refine (sat_any A nb cb bys (4 * (k : Int) + 4) _ Hnb.out H32.out rby hnb2 (by omega) (by omega)).mono ?_
        rintro e V96 ⟨m96, rfl, hm96, hb⟩
        go_wp2_with fail
        have hHeldN := hHeld.trans (hb.mono hHeld.size)
        have rby := rby.bel hb
        have hbc := hbc.trans (hb.mono hbc.size)
        refine hK.out _ _ ?_ (fun hHeld2 => ?_)
        · exact hHeldN
        clear hK K hHeld hHeldN hb; have hHeld := hHeld2; clear hHeld2
        try simp only [Act.put, List.setIfInBounds_toArray, List.set_cons_zero, List.set_cons_succ]
        refine wpAnyH_ready (rs := [28]) (by kernel_rfl) (by simp) ?_
        refine AllReadyH.cons (o := ⟨_, _, _, _, _, _⟩) rfl (fun K hK => ?_) AllReadyH.nil
        go_simp
        refine (spickS s.wash m96 _ F.w0l F.w01 (by have := F.w1h; omega) hm96).mono ?_
        rintro e V97 ⟨r97, rfl, hr97, hb⟩
        obtain ⟨D, hD⟩ : ∃ D, D = max 0 (r68 - s.crop) := ⟨_, rfl⟩
        have hDb : 0 ≤ D ∧ D ≤ 1000000000 := by have := F.crl; omega
        obtain ⟨Q, hQ⟩ : ∃ Q, Q = r97 * D := ⟨_, rfl⟩
        have hQb : 0 ≤ Q ∧ Q ≤ 100000000000000 := by rw [hQ]; have := prod_le (a := r97) (b := D) (A := 100000) (B := 1000000000) (by have := F.w0l; omega) (by omega) (by have := F.w1h; omega) (by omega); omega
        have k103 : IntKind.i64.wrap (r97 * max 0 (r68 - s.crop)) = Q := by rw [← hD, ← hQ]; exact wrapI (by omega)
        obtain ⟨E, hE⟩ : ∃ E, E = nw + (P + 1000 * r87 - Q) := ⟨_, rfl⟩
        have hEb : -200000000000000 ≤ E ∧ E ≤ 5000000000000000 := by have := F.r0l; have := F.r1h; omega
        have k104 : IntKind.i64.wrap (P + 1000 * r87 - Q) = P + 1000 * r87 - Q := wrapI (by have := F.r0l; have := F.r1h; omega)
        have k105 : IntKind.i64.wrap (nw + (P + 1000 * r87 - Q)) = E := by rw [← hE]; exact wrapI (by omega)
        have HD := hide hD; have HQ := hide hQ; have HE := hide hE
        clear hD hQ hE
        go_wp2_with fail
        have hHeldN := hHeld.trans (hb.mono hHeld.size)
        have rby := rby.bel hb
        have hbc := hbc.trans (hb.mono hbc.size)
        refine hK.out _ _ ?_ (fun hHeld2 => ?_)
        · exact hHeldN
        clear hK K hHeld hHeldN hb; have hHeld := hHeld2; clear hHeld2
        try simp only [Act.put, List.setIfInBounds_toArray, List.set_cons_zero, List.set_cons_succ]
        refine wpAnyH_take (i := 34) (oi := ⟨_, _, _, _, _, _⟩) (v := ?_) rfl (by kernel_rfl) (by kernel_rfl) (by kernel_rfl) (fun _ _ _ h => h) (Or.inl ⟨by rfl, ?_⟩) hHeld ?_
        rotate_left
        · (intro w hSw; (try dsimp only at hSw); go_simp; try (with_reducible rfl))
        try simp only [Act.put, List.setIfInBounds_toArray, List.set_cons_zero, List.set_cons_succ]
        refine wpAnyH_take (i := 35) (oi := ⟨_, _, _, _, _, _⟩) (v := ?_) rfl (by kernel_rfl) (by kernel_rfl) (by kernel_rfl) (fun _ _ _ h => h) (Or.inl ⟨by rfl, ?_⟩) hHeld ?_
        rotate_left
        · (intro w hSw; (try dsimp only at hSw); go_simp; try (with_reducible rfl))
        try simp only [Act.put, List.setIfInBounds_toArray, List.set_cons_zero, List.set_cons_succ]
        refine wpAnyH_take (i := 36) (oi := ⟨_, _, _, _, _, _⟩) (v := ?_) rfl (by kernel_rfl) (by kernel_rfl) (by kernel_rfl) (fun _ _ _ h => h) (Or.inl ⟨by rfl, ?_⟩) hHeld ?_
        rotate_left
        · (intro w hSw; (try dsimp only at hSw); go_simp; try (with_reducible rfl))
        try simp only [Act.put, List.setIfInBounds_toArray, List.set_cons_zero, List.set_cons_succ]
        refine wpAnyH_take (i := 37) (oi := ⟨_, _, _, _, _, _⟩) (v := ?_) rfl (by kernel_rfl) (by kernel_rfl) (by kernel_rfl) (fun _ _ _ h => h) (Or.inl ⟨by rfl, ?_⟩) hHeld ?_
        rotate_left
        · (intro w hSw; (try dsimp only at hSw); go_simp; try (with_reducible rfl))
        try simp only [Act.put, List.setIfInBounds_toArray, List.set_cons_zero, List.set_cons_succ]
        refine wpAnyH_done (by kernel_rfl) ?_ _
        obtain ⟨z0, z1, _, _⟩ := (x14.bel hHeld).w2
        replace Hbs := hide (Hbs.out.trans (hHeld.mono Hbs.out.size))
        have key := cycle_true (s := s.set (saltN s wa k)) (wa := wa) (now := nw) (v := r68) (m := r78) (r := r87) (x := r97) F.m0l hnw.out hwb.1 hr68 hr78 hr87 hr97
        rw [show cycleF (s.set (saltN s wa k)) wa = saltN s wa (k + 1) from rfl, Hsp.out, show (s.set (saltN s wa k)).crop = s.crop from rfl, ← HD.out, ← HP.out, ← HQ.out, show nw + P + 1000 * r87 - Q = E by rw [HE.out]; omega] at key
        dsimp only at key
        have t1 : ¬ max 0 E < 1000 * lo := by omega
        have t2 : ¬ 1000 * hi < max 0 E := by omega
        have k111 : IntKind.i64.wrap (1000 * lo) = 1000 * lo := wrapI (by omega)
        have k117 : IntKind.i64.wrap (1000 * hi) = 1000 * hi := wrapI (by omega)
        have Key := hide key
        clear key hHeld hbc k4 k41 k42 k43 k44
        go_wp2_with fail
        exact ⟨⟨k + 1, max 0 E, by omega, rfl, by go_num, hide (by rw [Hsp.out]; exact Key.out), Hbs.out⟩, by simp [intOf]; omega⟩
      · obtain rfl : cy = k := by omega
        have Hb := hide (hB7.trans (hb.mono hB7.size))
        clear hb hnw hlt
        go_wp2_with fail
        go_ret
        exact ⟨rfl, Hb.out⟩
  · have t1 : (40 : Int) < (cy : Int) := by omega
    go_wp2_with fail
    go_ret
    exact ⟨rfl, hB5⟩
set_option maxRecDepth 100000 in
theorem saltTrue_lifted (os : Os) (started : os.Started) (H : Type) (enc : TypeId × Value → H) :
    ReturnsInHanded {} Try.checked os 6 .any (Rows.saltTrueSpec.pre6 enc Try.prog Try.f6 Rows.saltTrueRow.domain false) (Rows.saltTrueSpec.post enc Try.prog Try.f6 false true false false) := by
  refine law_lifted os started H enc (s := Rows.saltTrueSpec) Try.func6 (by kernel_rfl) ?_ rfl Try.underlying4 rfl (of_decide_eq_true (by kernel_rfl))
    (ChangeSpec.witness6 (enc := enc) (C := Try.checked) false ⟨#[], #[.agg #[.int .i64 0, .int .i64 0, .int .i64 0, .int .i64 0, .int .i64 0, .int .i64 0, .int .i64 0, .int .i64 0, .int .i64 0, .int .i64 0], .agg #[.int .i64 0, .int .i64 0], .int .u8 0, .slice none 0 0], []⟩ 8 (by kernel_rfl) (by kernel_rfl) (by kernel_rfl) (by kernel_rfl)) ?_
  · intro ds hds
    match ds, hds with
    | [a, b, c, d], _ => rfl
  · intro W base args ds ps hval hA hlt
    rw [Try.params6] at hA hval
    obtain ⟨v0, v1, v2, v3, d0, d1, d2, d3, p0, p1, p2, p3, rfl, rfl, rfl, h0, h1, h2, h3⟩ := trodAll_four hA
    obtain ⟨s, rfl, _⟩ := open_val shape_so Try.underlying25 (hval 0 _ v0 rfl rfl) h0
    obtain ⟨wa, rfl, _⟩ := open_val shape_sp Try.underlying23 (hval 1 _ v1 rfl rfl) h1
    obtain ⟨cy, rfl, hcy⟩ := open_u8 (hval 2 _ v2 rfl rfl) h2
    obtain ⟨B, nb, cb, bys, rfl, hnb, hnb2, hby, h32⟩ := open_sl shape_u32 Try.underlying68 cells_u32 u32cell_len (by omega) (hval 3 _ v3 rfl rfl) h3
    exact strue_walk s wa cy B bys nb cb W hcy hnb hnb2 hby h32

theorem saltTrue_holds : Rows.SaltTrueSaid :=
  OpenClaim.holds_of_wide 6 Try.f6 rfl rfl rfl rfl rfl rfl rfl ⟨rfl, rfl, rfl, rfl, rfl⟩ rfl rfl rfl rfl rfl (by kernel_rfl) Try.func6 (by kernel_rfl)
    (of_decide_eq_true (by kernel_rfl)) (by unfold Func.isWrapper; rw [if_neg (of_decide_eq_false (by kernel_rfl))]; exact ⟨rfl, rfl⟩)
    (fun os started H enc _ => saltTrue_lifted os started H enc)
#print axioms saltTrue_holds
end Go.Proofs.Ytmbhnjpaieimbaa
