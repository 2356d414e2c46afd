/- SaltMore: more salt, or more that rises, is no less afterwards and needs no less; more that is washed down is no more; what is known better is told no wider. The law returns true for every soil and water, and how much. No conditions. -/
import Derived.Test.YtmbhnjpaieimbaaLNeedS
import Derived.Test.YtmbhnjpaieimbaaLTrueS
set_option linter.unusedVariables false
set_option linter.unusedSimpArgs false
namespace Go.Proofs.Ytmbhnjpaieimbaa
open Go.RowKit Go.Shelf Go.WideShapes Go.ChangeShapes Go.ChangeAt
/-! ### the plain law -/
def So.salty (s : So) (a b : Int) : So := ⟨⟨s.salt.lo + a, s.salt.hi + a⟩, s.limit, s.crop, s.mineral, s.wash, ⟨s.rise.lo + b, s.rise.hi + b⟩⟩
def So.washed (s : So) (a : Int) : So := ⟨s.salt, s.limit, s.crop, s.mineral, ⟨s.wash.lo + a, s.wash.hi + a⟩, s.rise⟩
def So.known (s : So) (a b : Int) : So := ⟨⟨a, s.salt.hi⟩, s.limit, s.crop, ⟨s.mineral.lo, b⟩, s.wash, s.rise⟩
structure MoreS (s sa wh kn : So) (wa : Sp) : Prop where
  oks : soOk sa = true
  okw : soOk wh = true
  okk : soOk kn = true
  b0 : ∀ k, (saltN s wa k).lo ≤ (saltN sa wa k).lo
  b1 : ∀ k, (saltN s wa k).hi ≤ (saltN sa wa k).hi
  c0 : ∀ k, (saltN wh wa k).lo ≤ (saltN s wa k).lo
  c1 : ∀ k, (saltN wh wa k).hi ≤ (saltN s wa k).hi
  d0 : ∀ k, (saltN s wa k).lo ≤ (saltN kn wa k).lo
  d1 : ∀ k, (saltN kn wa k).hi ≤ (saltN s wa k).hi
  nw : (needF s).2 = 0 → (needF wh).2 = 0 ∧ (needF wh).1 ≤ (needF s).1
  ns : (needF sa).2 = 0 → (needF s).2 = 0 ∧ (needF s).1 ≤ (needF sa).1
theorem moreS {s : So} {wa : Sp} {a b c d e : Int} (h : soOk s = true) (F : SoB s) (hw0 : 0 ≤ wa.lo) (hw1 : wa.lo ≤ wa.hi) (ha : 0 ≤ a ∧ a ≤ 100000000 - s.salt.hi) (hb : 0 ≤ b ∧ b ≤ 100000000 - s.rise.hi) (hc : 0 ≤ c ∧ c ≤ 100000 - s.wash.hi) (hd : s.salt.lo ≤ d ∧ d ≤ s.salt.hi) (he : s.mineral.lo ≤ e ∧ e ≤ s.mineral.hi) :
    MoreS s (s.salty a b) (s.washed c) (s.known d e) wa := by
  have k1 := F.a0l; have k2 := F.a01; have k3 := F.a1k; have k4 := F.r0l; have k5 := F.r01; have k6 := F.r1h; have k7 := F.w0l; have k8 := F.w01; have k9 := F.w1h; have k10 := F.m0l; have k11 := F.m01; have k12 := F.m1h; have k13 := F.crl; have k14 := F.crh; have k15 := F.lil; have k16 := F.lih
  have o1 : soOk (s.salty a b) = true := by simp only [soOk, So.salty, Sp.ok, inB, Bool.and_eq_true]; (repeat' apply And.intro) <;> (apply decide_eq_true; first | omega | (dsimp only; omega))
  have o2 : soOk (s.washed c) = true := by simp only [soOk, So.washed, Sp.ok, inB, Bool.and_eq_true]; (repeat' apply And.intro) <;> (apply decide_eq_true; first | omega | (dsimp only; omega))
  have o3 : soOk (s.known d e) = true := by simp only [soOk, So.known, Sp.ok, inB, Bool.and_eq_true]; (repeat' apply And.intro) <;> (apply decide_eq_true; first | omega | (dsimp only; omega))
  have l1 : ∀ h, Less h s (s.salty a b) := fun h => ⟨rfl, by cases h <;> simp [Sp.at, So.salty] <;> omega, Int.le_refl _, Int.le_refl _⟩
  have l2 : ∀ h, Less h (s.washed c) s := fun h => ⟨rfl, Int.le_refl _, Int.le_refl _, by cases h <;> simp [Sp.at, So.washed] <;> omega⟩
  have l3 : Less false s (s.known d e) := ⟨rfl, Int.le_refl _, Int.le_refl _, Int.le_refl _⟩
  have l4 : Less true (s.known d e) s := ⟨rfl, Int.le_refl _, by simp [Sp.at, So.known]; omega, Int.le_refl _⟩
  refine ⟨o1, o2, o3, fun k => ?_, fun k => ?_, fun k => ?_, fun k => ?_, fun k => ?_, fun k => ?_, fun h0 => ?_, fun h0 => ?_⟩
  · exact salt_mono (l1 false) (by simp [Sp.at, So.salty]; omega) hw0 hw1 k
  · exact salt_mono (l1 true) (by simp [Sp.at, So.salty]; omega) hw0 hw1 k
  · exact salt_mono (l2 false) (Int.le_refl _) hw0 hw1 k
  · exact salt_mono (l2 true) (Int.le_refl _) hw0 hw1 k
  · exact salt_mono l3 (by simp [Sp.at, So.known]; omega) hw0 hw1 k
  · exact salt_mono l4 (Int.le_refl _) hw0 hw1 k
  · exact need_mono (l2 true) (Int.le_refl _) rfl o2 h h0
  · exact need_mono (l1 true) (by show s.salt.hi ≤ s.salt.hi + a; omega) rfl h o1 h0
theorem Rd.some_ {α : Type} {w : World} {B : Nat} {cells : α → List Value} {A : Option Addr} {xs : List α} (h : Rd w B cells A xs) (hx : 0 < xs.length) : ∃ b o, A = some ⟨b, o, none⟩ := by
  obtain ⟨b, o, e, _⟩ := h hx
  exact ⟨b, o, e⟩
theorem Rd.sp' {w : World} {B b o : Nat} {xs : List Sp} (h : Rd w B Sp.cells (some ⟨b, o, none⟩) xs) {i : Nat} (hi : i < xs.length) :
    ∃ lo hi, xs[i]? = some ⟨lo, hi⟩ ∧ w.cell? ⟨b, o + i * 2, none⟩ = some (.int .i64 lo) ∧ w.cell? ⟨b, o + i * 2 + 1, none⟩ = some (.int .i64 hi) := by
  obtain ⟨b7, off, lo, hh, hA, _, hx, c0, c1⟩ := h.sp hi
  injection hA with hA
  injection hA with hA1 hA2 _
  subst hA1 hA2
  exact ⟨lo, hh, hx, c0, c1⟩
theorem afterL_at {s : So} {wa : Sp} {k : Nat} {lo hi : Int} (hk : k < 2) (h : (afterL s wa 2)[k]? = some ⟨lo, hi⟩) : saltN s wa (k + 1) = ⟨lo, hi⟩ := by
  rw [show (afterL s wa 2)[k]? = some (saltN s wa (k + 1)) by simp [afterL, hk]] at h
  exact Option.some.inj h
/-! ### up, by contract -/
set_option maxHeartbeats 4000000 in
set_option maxRecDepth 100000 in
theorem sup_any (lo hi mx : Int) (n : Nat) (w : World) (h0 : 0 ≤ lo) (h1 : lo ≤ hi) (h2 : hi ≤ mx) (h3 : mx ≤ 1000000000000) (hn : n ≤ 4294967295) :
    Calls Try.prog 41 #[.agg #[.int .i64 lo, .int .i64 hi], .int .i64 mx, .int .u32 (n : Int)] w fun e w' => ∃ k, e = .returned (.agg #[.int .i64 (lo + k), .int .i64 (hi + k)]) ∧ (0 ≤ k ∧ k ≤ mx - hi) ∧ Below w.heap.size w w' := by
  obtain ⟨b3, w1, e3, ew1, hx3, hb1, hz1⟩ := mk_bx w #[.int .i64 lo, .int .i64 hi] 23
  obtain ⟨b6, w2, e6, ew2, hx6, hb2, hz2⟩ := mk_bx w1 #[.int .i64 0, .int .i64 0] 23
  have e36 : b3 + 1 = b6 := by have := e6.out; omega
  have hB := hb1.trans (hb2.mono hb1.size)
  have hx3' := hx3.bel hb2
  obtain ⟨q0, q1⟩ := hx3'.at_.c2
  have fm : IntKind.i64.wrap (n : Int) = n := wrapI (by omega)
  have e1 : (0 : Int) ≤ (n : Int) % (mx - hi + 1) ∧ (n : Int) % (mx - hi + 1) < mx - hi + 1 := ⟨Int.emod_nonneg _ (by omega), Int.emod_lt_of_pos _ (by omega)⟩
  obtain ⟨k, hk⟩ : ∃ k, k = (n : Int) % (mx - hi + 1) := ⟨_, rfl⟩
  rw [← hk] at e1
  have t1 : Int.tmod (n : Int) (mx - hi + 1) = k := by rw [Int.tmod_eq_emod_of_nonneg (by omega), hk]
  have nz : ¬ mx - hi + 1 = 0 := by omega
  have Hk := hide hk
  have hge : w.heap.size ≤ b6 := by have := e3.out; omega
  clear hk hx3 hz1 hz2
  go_enter Try.func41, Try.ntmps41
  go_wp2_with fail
  rw [ew1.out, e3.out, e36, ew2.out]
  go_wp2_with fail
  refine (sspan_any _ _ _).mono ?_
  rintro e w3 ⟨rfl, hb3⟩
  have hx := hx6.bel hb3
  obtain ⟨z0, z1, f0, f1⟩ := hx.w2
  have hB3 := hB.trans (hb3.mono hB.size)
  have hs := (hx.set2 (.int .i64 (lo + k)) (.int .i64 (hi + k))).at_
  go_wp2_with fail
  refine bodyPost_ret (results_mid rfl _ _ b6 _ rfl hs Try.underlying23 rfl (by kernel_rfl)) rfl ?_
  exact ⟨k, rfl, ⟨by omega, by omega⟩, (hB3.setCell (p := ⟨b6, 0, none⟩) hge _).setCell (p := ⟨b6, 1, none⟩) hge _⟩
set_option maxHeartbeats 40000000 in
set_option maxRecDepth 100000 in
theorem smore_walk (s : So) (wa : Sp) (A : Option Addr) (bys : List Nat) (nb cb : Nat) (w : World) (hnb : nb = bys.length) (hnb2 : nb ≤ 9223372036854775807) (hby : Rd w w.heap.size u32cell A bys) (h32 : ∀ x ∈ bys, x ≤ 4294967295) :
    Calls Try.prog 8 #[.agg #[.int .i64 s.salt.lo, .int .i64 s.salt.hi, .int .i64 s.limit, .int .i64 s.crop, .int .i64 s.mineral.lo, .int .i64 s.mineral.hi, .int .i64 s.wash.lo, .int .i64 s.wash.hi, .int .i64 s.rise.lo, .int .i64 s.rise.hi], .agg #[.int .i64 wa.lo, .int .i64 wa.hi], .slice A nb cb] w fun e w' => e = .returned (.bool true) ∧ Below w.heap.size w w' := by
  obtain ⟨b3, w1, e3, ew1, hx3, hb1, hz1⟩ := mk_bx w #[.int .i64 s.salt.lo, .int .i64 s.salt.hi, .int .i64 s.limit, .int .i64 s.crop, .int .i64 s.mineral.lo, .int .i64 s.mineral.hi, .int .i64 s.wash.lo, .int .i64 s.wash.hi, .int .i64 s.rise.lo, .int .i64 s.rise.hi] 25
  obtain ⟨b4, w2, e4, ew2, hx4, hb2, hz2⟩ := mk_bx w1 #[.int .i64 wa.lo, .int .i64 wa.hi] 23
  have e34 : b3 + 1 = b4 := by have := e4.out; omega
  have hB := hb1.trans (hb2.mono hb1.size)
  have Hnb := hide hnb; have H32 := hide h32; have Hby := hide hby
  have rby := hby.bel hB
  replace hx3 := hx3.bel hb2
  have hb3w : w.heap.size ≤ b3 := by have := e3.out; omega
  clear hnb h32 hby hz1 hz2 hb1 hb2
  go_enter Try.func8, Try.ntmps8
  go_wp2_with fail
  rw [ew1.out, e3.out, e34, ew2.out]
  refine (salive_any _).mono ?_
  rintro e w3 ⟨rfl, hb3⟩
  replace hB := hB.trans (hb3.mono hB.size)
  replace hx3 := hx3.bel hb3; replace hx4 := hx4.bel hb3; replace rby := rby.bel hb3
  obtain ⟨q0, q1, q2, q3, q4, q5, q6, q7, q8, q9⟩ := hx3.at_.c10
  clear hb3
  go_wp2_with fail
  refine (show Calls Try.prog 19 _ _ (fun e w' => e = .returned (.int .i64 (soCheck s)) ∧ Below w3.heap.size w3 w') from ref06_check _ _ _ _ _ _ _ _ _ _ _).mono ?_
  rintro e w4 ⟨rfl, hb4⟩
  replace hB := hB.trans (hb4.mono hB.size)
  replace hx3 := hx3.bel hb4; replace hx4 := hx4.bel hb4; replace rby := rby.bel hb4
  clear q0 q1 q2 q3 q4 q5 q6 q7 q8 q9 hb4
  cases hso : soOk s
  · have hce : soCheck s = 60 := by simp [soCheck, hso]
    rw [hce]
    clear hso hce
    go_wp2_with fail
    go_ret
    exact ⟨rfl, hB⟩
  have hce : soCheck s = 0 := by simp [soCheck, hso]
  rw [hce]
  have Hso := hide hso
  have F := SoB.of hso
  clear hso hce
  obtain ⟨p0, p1⟩ := hx4.at_.c2
  go_wp2_with fail
  refine (spanned_any _ _ _ _ _).mono ?_
  rintro e w5 ⟨rfl, hb5⟩
  replace hB := hB.trans (hb5.mono hB.size)
  replace hx3 := hx3.bel hb5; replace hx4 := hx4.bel hb5; replace rby := rby.bel hb5
  clear p0 p1 hb5
  cases hwa : Sp.ok 0 1000000000 ⟨wa.lo, wa.hi⟩
  · clear hwa
    go_wp2_with fail
    go_ret
    exact ⟨rfl, hB⟩
  have Hwa := hide hwa
  have hwb : 0 ≤ wa.lo ∧ wa.lo ≤ wa.hi ∧ wa.hi ≤ 1000000000 := by
    simp [Sp.ok, inB] at hwa; omega
  clear hwa
  have Hx3 := hide hx3
  go_upto_region 7 with fail
  refine wp_region_held_drew (S := (fun W => Below w5.heap.size w5 W)) (by kernel_rfl) (by (try dsimp only); exact (Below.refl _ _).drew) (fun hHeld => ?_)
  generalize World.drew w5 = Wd7 at hHeld ⊢
  have hbc := Below.refl Wd7.heap.size Wd7
  refine wpAnyH_take (i := 0) (oi := ⟨_, _, _, _, _, _⟩) (v := ?_) rfl (by kernel_rfl) (by kernel_rfl) (by kernel_rfl) (fun _ _ _ h => h) (Or.inl ⟨by rfl, ?_⟩) hHeld ?_
  rotate_left
  · (intro w hSw; (try dsimp only at hSw); obtain ⟨q0, q1, q2, q3, q4, q5, q6, q7, q8, q9⟩ := (Hx3.out.bel hSw).at_.c10; go_simp; try (with_reducible rfl))
  try simp only [Act.put, List.setIfInBounds_toArray, List.set_cons_zero, List.set_cons_succ]
  refine wpAnyH_take (i := 1) (oi := ⟨_, _, _, _, _, _⟩) (v := ?_) rfl (by kernel_rfl) (by kernel_rfl) (by kernel_rfl) (fun _ _ _ h => h) (Or.inl ⟨by rfl, ?_⟩) hHeld ?_
  rotate_left
  · (intro w hSw; (try dsimp only at hSw); obtain ⟨q0, q1, q2, q3, q4, q5, q6, q7, q8, q9⟩ := (Hx3.out.bel hSw).at_.c10; go_simp; try (with_reducible rfl))
  try simp only [Act.put, List.setIfInBounds_toArray, List.set_cons_zero, List.set_cons_succ]
  refine wpAnyH_take (i := 2) (oi := ⟨_, _, _, _, _, _⟩) (v := ?_) rfl (by kernel_rfl) (by kernel_rfl) (by kernel_rfl) (fun _ _ _ h => h) (Or.inl ⟨by rfl, ?_⟩) hHeld ?_
  rotate_left
  · (intro w hSw; (try dsimp only at hSw); obtain ⟨q0, q1, q2, q3, q4, q5, q6, q7, q8, q9⟩ := (Hx3.out.bel hSw).at_.c10; go_simp; try (with_reducible rfl))
  try simp only [Act.put, List.setIfInBounds_toArray, List.set_cons_zero, List.set_cons_succ]
  refine cut3 (C := fun (b9 : Nat) (b10 : Nat) (b11 : Nat) (Wc7_1 : World) => (Bx Wc7_1 b9 [.int .i64 0, .int .i64 0, .int .i64 0, .int .i64 0, .int .i64 0, .int .i64 0, .int .i64 0, .int .i64 0, .int .i64 0, .int .i64 0]) ∧ (Bx Wc7_1 b10 [.int .i64 0, .int .i64 0, .int .i64 0, .int .i64 0, .int .i64 0, .int .i64 0, .int .i64 0, .int .i64 0, .int .i64 0, .int .i64 0]) ∧ (Bx Wc7_1 b11 [.int .i64 0, .int .i64 0, .int .i64 0, .int .i64 0, .int .i64 0, .int .i64 0, .int .i64 0, .int .i64 0, .int .i64 0, .int .i64 0]) ∧ (w5.heap.size ≤ b9) ∧ (w5.heap.size ≤ b10) ∧ (w5.heap.size ≤ b11) ∧ (b9 ≠ b10) ∧ (b9 ≠ b11) ∧ (b10 ≠ b11) ∧ Below Wd7.heap.size Wd7 Wc7_1 ∧ Below w5.heap.size w5 Wc7_1) (G := ?_) ?_ ?_
  rotate_left
  · intro hCut
    replace hbc := Below.refl Wd7.heap.size Wd7
    refine wpAnyH_ready (rs := [3, 4, 5]) (by kernel_rfl) (by simp) ?_
    refine AllReadyH.cons (o := ⟨_, _, _, _, _, _⟩) rfl (fun K hK => ?_) ?_
    ·
      go_simp
      obtain ⟨b9, V9, eb9, ev9, hx9, hb, hz9⟩ := mk_bx Wd7 #[.int .i64 0, .int .i64 0, .int .i64 0, .int .i64 0, .int .i64 0, .int .i64 0, .int .i64 0, .int .i64 0, .int .i64 0, .int .i64 0] 25
      try (have ne9_10 : b9 ≠ b10 := by have := hx10.lt; have := eb9.out; omega)
      try (have ne9_11 : b9 ≠ b11 := by have := hx11.lt; have := eb9.out; omega)
      have hge9 : w5.heap.size ≤ b9 := by have := eb9.out; have := hHeld.size; omega
      rw [ev9.out, eb9.out]
      clear ev9 eb9 hz9
      have hHeldN := hHeld.trans (hb.mono hHeld.size)
      have hbc := hbc.trans (hb.mono hbc.size)
      refine hK.out _ _ ?_ (fun hHeld2 => ?_)
      · exact hHeldN
      clear hK K hHeldN hb; have hHeld := hHeld2; clear hHeld2
      try simp only [Act.put, List.setIfInBounds_toArray, List.set_cons_zero, List.set_cons_succ]
      refine wpAnyH_ready (rs := [4, 5]) (by kernel_rfl) (by simp) ?_
      refine AllReadyH.cons (o := ⟨_, _, _, _, _, _⟩) rfl (fun K hK => ?_) ?_
      ·
        go_simp
        obtain ⟨b10, V10, eb10, ev10, hx10, hb, hz10⟩ := mk_bx V9 #[.int .i64 0, .int .i64 0, .int .i64 0, .int .i64 0, .int .i64 0, .int .i64 0, .int .i64 0, .int .i64 0, .int .i64 0, .int .i64 0] 25
        try (have ne9_10 : b9 ≠ b10 := by have := hx9.lt; have := eb10.out; omega)
        try (have ne10_11 : b10 ≠ b11 := by have := hx11.lt; have := eb10.out; omega)
        have hge10 : w5.heap.size ≤ b10 := by have := eb10.out; have := hHeld.size; omega
        rw [ev10.out, eb10.out]
        clear ev10 eb10 hz10
        have hHeldN := hHeld.trans (hb.mono hHeld.size)
        have hx9 := hx9.bel hb
        have hbc := hbc.trans (hb.mono hbc.size)
        refine hK.out _ _ ?_ (fun hHeld2 => ?_)
        · exact hHeldN
        clear hK K hHeldN hb; have hHeld := hHeld2; clear hHeld2
        try simp only [Act.put, List.setIfInBounds_toArray, List.set_cons_zero, List.set_cons_succ]
        refine wpAnyH_ready (rs := [5]) (by kernel_rfl) (by simp) ?_
        refine AllReadyH.cons (o := ⟨_, _, _, _, _, _⟩) rfl (fun K hK => ?_) AllReadyH.nil
        go_simp
        obtain ⟨b11, V11, eb11, ev11, hx11, hb, hz11⟩ := mk_bx V10 #[.int .i64 0, .int .i64 0, .int .i64 0, .int .i64 0, .int .i64 0, .int .i64 0, .int .i64 0, .int .i64 0, .int .i64 0, .int .i64 0] 25
        try (have ne9_11 : b9 ≠ b11 := by have := hx9.lt; have := eb11.out; omega)
        try (have ne10_11 : b10 ≠ b11 := by have := hx10.lt; have := eb11.out; omega)
        have hge11 : w5.heap.size ≤ b11 := by have := eb11.out; have := hHeld.size; omega
        rw [ev11.out, eb11.out]
        clear ev11 eb11 hz11
        have hHeldN := hHeld.trans (hb.mono hHeld.size)
        have hx9 := hx9.bel hb
        have hx10 := hx10.bel hb
        have hbc := hbc.trans (hb.mono hbc.size)
        refine hK.out _ _ ?_ (fun hHeld2 => ?_)
        · exact hHeldN
        clear hK K hHeldN hb; have hHeld := hHeld2; clear hHeld2
        try simp only [Act.put, List.setIfInBounds_toArray, List.set_cons_zero, List.set_cons_succ]
        exact hCut b9 b10 b11 V11 ⟨hx9, hx10, hx11, hge9, hge10, hge11, ne9_10, ne9_11, ne10_11, hbc, hHeld⟩
      refine AllReadyH.cons (o := ⟨_, _, _, _, _, _⟩) rfl (fun K hK => ?_) AllReadyH.nil
      go_simp
      obtain ⟨b11, V11, eb11, ev11, hx11, hb, hz11⟩ := mk_bx V9 #[.int .i64 0, .int .i64 0, .int .i64 0, .int .i64 0, .int .i64 0, .int .i64 0, .int .i64 0, .int .i64 0, .int .i64 0, .int .i64 0] 25
      try (have ne9_11 : b9 ≠ b11 := by have := hx9.lt; have := eb11.out; omega)
      try (have ne10_11 : b10 ≠ b11 := by have := hx10.lt; have := eb11.out; omega)
      have hge11 : w5.heap.size ≤ b11 := by have := eb11.out; have := hHeld.size; omega
      rw [ev11.out, eb11.out]
      clear ev11 eb11 hz11
      have hHeldN := hHeld.trans (hb.mono hHeld.size)
      have hx9 := hx9.bel hb
      have hbc := hbc.trans (hb.mono hbc.size)
      refine hK.out _ _ ?_ (fun hHeld2 => ?_)
      · exact hHeldN
      clear hK K hHeldN hb; have hHeld := hHeld2; clear hHeld2
      try simp only [Act.put, List.setIfInBounds_toArray, List.set_cons_zero, List.set_cons_succ]
      refine wpAnyH_ready (rs := [4]) (by kernel_rfl) (by simp) ?_
      refine AllReadyH.cons (o := ⟨_, _, _, _, _, _⟩) rfl (fun K hK => ?_) AllReadyH.nil
      go_simp
      obtain ⟨b10, V10, eb10, ev10, hx10, hb, hz10⟩ := mk_bx V11 #[.int .i64 0, .int .i64 0, .int .i64 0, .int .i64 0, .int .i64 0, .int .i64 0, .int .i64 0, .int .i64 0, .int .i64 0, .int .i64 0] 25
      try (have ne9_10 : b9 ≠ b10 := by have := hx9.lt; have := eb10.out; omega)
      try (have ne10_11 : b10 ≠ b11 := by have := hx11.lt; have := eb10.out; omega)
      have hge10 : w5.heap.size ≤ b10 := by have := eb10.out; have := hHeld.size; omega
      rw [ev10.out, eb10.out]
      clear ev10 eb10 hz10
      have hHeldN := hHeld.trans (hb.mono hHeld.size)
      have hx9 := hx9.bel hb
      have hx11 := hx11.bel hb
      have hbc := hbc.trans (hb.mono hbc.size)
      refine hK.out _ _ ?_ (fun hHeld2 => ?_)
      · exact hHeldN
      clear hK K hHeldN hb; have hHeld := hHeld2; clear hHeld2
      try simp only [Act.put, List.setIfInBounds_toArray, List.set_cons_zero, List.set_cons_succ]
      exact hCut b9 b10 b11 V10 ⟨hx9, hx10, hx11, hge9, hge10, hge11, ne9_10, ne9_11, ne10_11, hbc, hHeld⟩
    refine AllReadyH.cons (o := ⟨_, _, _, _, _, _⟩) rfl (fun K hK => ?_) ?_
    ·
      go_simp
      obtain ⟨b10, V10, eb10, ev10, hx10, hb, hz10⟩ := mk_bx Wd7 #[.int .i64 0, .int .i64 0, .int .i64 0, .int .i64 0, .int .i64 0, .int .i64 0, .int .i64 0, .int .i64 0, .int .i64 0, .int .i64 0] 25
      try (have ne9_10 : b9 ≠ b10 := by have := hx9.lt; have := eb10.out; omega)
      try (have ne10_11 : b10 ≠ b11 := by have := hx11.lt; have := eb10.out; omega)
      have hge10 : w5.heap.size ≤ b10 := by have := eb10.out; have := hHeld.size; omega
      rw [ev10.out, eb10.out]
      clear ev10 eb10 hz10
      have hHeldN := hHeld.trans (hb.mono hHeld.size)
      have hbc := hbc.trans (hb.mono hbc.size)
      refine hK.out _ _ ?_ (fun hHeld2 => ?_)
      · exact hHeldN
      clear hK K hHeldN hb; have hHeld := hHeld2; clear hHeld2
      try simp only [Act.put, List.setIfInBounds_toArray, List.set_cons_zero, List.set_cons_succ]
      refine wpAnyH_ready (rs := [3, 5]) (by kernel_rfl) (by simp) ?_
      refine AllReadyH.cons (o := ⟨_, _, _, _, _, _⟩) rfl (fun K hK => ?_) ?_
      ·
        go_simp
        obtain ⟨b9, V9, eb9, ev9, hx9, hb, hz9⟩ := mk_bx V10 #[.int .i64 0, .int .i64 0, .int .i64 0, .int .i64 0, .int .i64 0, .int .i64 0, .int .i64 0, .int .i64 0, .int .i64 0, .int .i64 0] 25
        try (have ne9_10 : b9 ≠ b10 := by have := hx10.lt; have := eb9.out; omega)
        try (have ne9_11 : b9 ≠ b11 := by have := hx11.lt; have := eb9.out; omega)
        have hge9 : w5.heap.size ≤ b9 := by have := eb9.out; have := hHeld.size; omega
        rw [ev9.out, eb9.out]
        clear ev9 eb9 hz9
        have hHeldN := hHeld.trans (hb.mono hHeld.size)
        have hx10 := hx10.bel hb
        have hbc := hbc.trans (hb.mono hbc.size)
        refine hK.out _ _ ?_ (fun hHeld2 => ?_)
        · exact hHeldN
        clear hK K hHeldN hb; have hHeld := hHeld2; clear hHeld2
        try simp only [Act.put, List.setIfInBounds_toArray, List.set_cons_zero, List.set_cons_succ]
        refine wpAnyH_ready (rs := [5]) (by kernel_rfl) (by simp) ?_
        refine AllReadyH.cons (o := ⟨_, _, _, _, _, _⟩) rfl (fun K hK => ?_) AllReadyH.nil
        go_simp
        obtain ⟨b11, V11, eb11, ev11, hx11, hb, hz11⟩ := mk_bx V9 #[.int .i64 0, .int .i64 0, .int .i64 0, .int .i64 0, .int .i64 0, .int .i64 0, .int .i64 0, .int .i64 0, .int .i64 0, .int .i64 0] 25
        try (have ne9_11 : b9 ≠ b11 := by have := hx9.lt; have := eb11.out; omega)
        try (have ne10_11 : b10 ≠ b11 := by have := hx10.lt; have := eb11.out; omega)
        have hge11 : w5.heap.size ≤ b11 := by have := eb11.out; have := hHeld.size; omega
        rw [ev11.out, eb11.out]
        clear ev11 eb11 hz11
        have hHeldN := hHeld.trans (hb.mono hHeld.size)
        have hx10 := hx10.bel hb
        have hx9 := hx9.bel hb
        have hbc := hbc.trans (hb.mono hbc.size)
        refine hK.out _ _ ?_ (fun hHeld2 => ?_)
        · exact hHeldN
        clear hK K hHeldN hb; have hHeld := hHeld2; clear hHeld2
        try simp only [Act.put, List.setIfInBounds_toArray, List.set_cons_zero, List.set_cons_succ]
        exact hCut b9 b10 b11 V11 ⟨hx9, hx10, hx11, hge9, hge10, hge11, ne9_10, ne9_11, ne10_11, hbc, hHeld⟩
      refine AllReadyH.cons (o := ⟨_, _, _, _, _, _⟩) rfl (fun K hK => ?_) AllReadyH.nil
      go_simp
      obtain ⟨b11, V11, eb11, ev11, hx11, hb, hz11⟩ := mk_bx V10 #[.int .i64 0, .int .i64 0, .int .i64 0, .int .i64 0, .int .i64 0, .int .i64 0, .int .i64 0, .int .i64 0, .int .i64 0, .int .i64 0] 25
      try (have ne9_11 : b9 ≠ b11 := by have := hx9.lt; have := eb11.out; omega)
      try (have ne10_11 : b10 ≠ b11 := by have := hx10.lt; have := eb11.out; omega)
      have hge11 : w5.heap.size ≤ b11 := by have := eb11.out; have := hHeld.size; omega
      rw [ev11.out, eb11.out]
      clear ev11 eb11 hz11
      have hHeldN := hHeld.trans (hb.mono hHeld.size)
      have hx10 := hx10.bel hb
      have hbc := hbc.trans (hb.mono hbc.size)
      refine hK.out _ _ ?_ (fun hHeld2 => ?_)
      · exact hHeldN
      clear hK K hHeldN hb; have hHeld := hHeld2; clear hHeld2
      try simp only [Act.put, List.setIfInBounds_toArray, List.set_cons_zero, List.set_cons_succ]
      refine wpAnyH_ready (rs := [3]) (by kernel_rfl) (by simp) ?_
      refine AllReadyH.cons (o := ⟨_, _, _, _, _, _⟩) rfl (fun K hK => ?_) AllReadyH.nil
      go_simp
      obtain ⟨b9, V9, eb9, ev9, hx9, hb, hz9⟩ := mk_bx V11 #[.int .i64 0, .int .i64 0, .int .i64 0, .int .i64 0, .int .i64 0, .int .i64 0, .int .i64 0, .int .i64 0, .int .i64 0, .int .i64 0] 25
      try (have ne9_10 : b9 ≠ b10 := by have := hx10.lt; have := eb9.out; omega)
      try (have ne9_11 : b9 ≠ b11 := by have := hx11.lt; have := eb9.out; omega)
      have hge9 : w5.heap.size ≤ b9 := by have := eb9.out; have := hHeld.size; omega
      rw [ev9.out, eb9.out]
      clear ev9 eb9 hz9
      have hHeldN := hHeld.trans (hb.mono hHeld.size)
      have hx10 := hx10.bel hb
      have hx11 := hx11.bel hb
      have hbc := hbc.trans (hb.mono hbc.size)
      refine hK.out _ _ ?_ (fun hHeld2 => ?_)
      · exact hHeldN
      clear hK K hHeldN hb; have hHeld := hHeld2; clear hHeld2
      try simp only [Act.put, List.setIfInBounds_toArray, List.set_cons_zero, List.set_cons_succ]
      exact hCut b9 b10 b11 V9 ⟨hx9, hx10, hx11, hge9, hge10, hge11, ne9_10, ne9_11, ne10_11, hbc, hHeld⟩
    refine AllReadyH.cons (o := ⟨_, _, _, _, _, _⟩) rfl (fun K hK => ?_) AllReadyH.nil
    go_simp
    obtain ⟨b11, V11, eb11, ev11, hx11, hb, hz11⟩ := mk_bx Wd7 #[.int .i64 0, .int .i64 0, .int .i64 0, .int .i64 0, .int .i64 0, .int .i64 0, .int .i64 0, .int .i64 0, .int .i64 0, .int .i64 0] 25
    try (have ne9_11 : b9 ≠ b11 := by have := hx9.lt; have := eb11.out; omega)
    try (have ne10_11 : b10 ≠ b11 := by have := hx10.lt; have := eb11.out; omega)
    have hge11 : w5.heap.size ≤ b11 := by have := eb11.out; have := hHeld.size; omega
    rw [ev11.out, eb11.out]
    clear ev11 eb11 hz11
    have hHeldN := hHeld.trans (hb.mono hHeld.size)
    have hbc := hbc.trans (hb.mono hbc.size)
    refine hK.out _ _ ?_ (fun hHeld2 => ?_)
    · exact hHeldN
    clear hK K hHeldN hb; have hHeld := hHeld2; clear hHeld2
    try simp only [Act.put, List.setIfInBounds_toArray, List.set_cons_zero, List.set_cons_succ]
    refine wpAnyH_ready (rs := [3, 4]) (by kernel_rfl) (by simp) ?_
    refine AllReadyH.cons (o := ⟨_, _, _, _, _, _⟩) rfl (fun K hK => ?_) ?_
    ·
      go_simp
      obtain ⟨b9, V9, eb9, ev9, hx9, hb, hz9⟩ := mk_bx V11 #[.int .i64 0, .int .i64 0, .int .i64 0, .int .i64 0, .int .i64 0, .int .i64 0, .int .i64 0, .int .i64 0, .int .i64 0, .int .i64 0] 25
      try (have ne9_10 : b9 ≠ b10 := by have := hx10.lt; have := eb9.out; omega)
      try (have ne9_11 : b9 ≠ b11 := by have := hx11.lt; have := eb9.out; omega)
      have hge9 : w5.heap.size ≤ b9 := by have := eb9.out; have := hHeld.size; omega
      rw [ev9.out, eb9.out]
      clear ev9 eb9 hz9
      have hHeldN := hHeld.trans (hb.mono hHeld.size)
      have hx11 := hx11.bel hb
      have hbc := hbc.trans (hb.mono hbc.size)
      refine hK.out _ _ ?_ (fun hHeld2 => ?_)
      · exact hHeldN
      clear hK K hHeldN hb; have hHeld := hHeld2; clear hHeld2
      try simp only [Act.put, List.setIfInBounds_toArray, List.set_cons_zero, List.set_cons_succ]
      refine wpAnyH_ready (rs := [4]) (by kernel_rfl) (by simp) ?_
      refine AllReadyH.cons (o := ⟨_, _, _, _, _, _⟩) rfl (fun K hK => ?_) AllReadyH.nil
      go_simp
      obtain ⟨b10, V10, eb10, ev10, hx10, hb, hz10⟩ := mk_bx V9 #[.int .i64 0, .int .i64 0, .int .i64 0, .int .i64 0, .int .i64 0, .int .i64 0, .int .i64 0, .int .i64 0, .int .i64 0, .int .i64 0] 25
      try (have ne9_10 : b9 ≠ b10 := by have := hx9.lt; have := eb10.out; omega)
      try (have ne10_11 : b10 ≠ b11 := by have := hx11.lt; have := eb10.out; omega)
      have hge10 : w5.heap.size ≤ b10 := by have := eb10.out; have := hHeld.size; omega
      rw [ev10.out, eb10.out]
      clear ev10 eb10 hz10
      have hHeldN := hHeld.trans (hb.mono hHeld.size)
      have hx11 := hx11.bel hb
      have hx9 := hx9.bel hb
      have hbc := hbc.trans (hb.mono hbc.size)
      refine hK.out _ _ ?_ (fun hHeld2 => ?_)
      · exact hHeldN
      clear hK K hHeldN hb; have hHeld := hHeld2; clear hHeld2
      try simp only [Act.put, List.setIfInBounds_toArray, List.set_cons_zero, List.set_cons_succ]
      exact hCut b9 b10 b11 V10 ⟨hx9, hx10, hx11, hge9, hge10, hge11, ne9_10, ne9_11, ne10_11, hbc, hHeld⟩
    refine AllReadyH.cons (o := ⟨_, _, _, _, _, _⟩) rfl (fun K hK => ?_) AllReadyH.nil
    go_simp
    obtain ⟨b10, V10, eb10, ev10, hx10, hb, hz10⟩ := mk_bx V11 #[.int .i64 0, .int .i64 0, .int .i64 0, .int .i64 0, .int .i64 0, .int .i64 0, .int .i64 0, .int .i64 0, .int .i64 0, .int .i64 0] 25
    try (have ne9_10 : b9 ≠ b10 := by have := hx9.lt; have := eb10.out; omega)
    try (have ne10_11 : b10 ≠ b11 := by have := hx11.lt; have := eb10.out; omega)
    have hge10 : w5.heap.size ≤ b10 := by have := eb10.out; have := hHeld.size; omega
    rw [ev10.out, eb10.out]
    clear ev10 eb10 hz10
    have hHeldN := hHeld.trans (hb.mono hHeld.size)
    have hx11 := hx11.bel hb
    have hbc := hbc.trans (hb.mono hbc.size)
    refine hK.out _ _ ?_ (fun hHeld2 => ?_)
    · exact hHeldN
    clear hK K hHeldN hb; have hHeld := hHeld2; clear hHeld2
    try simp only [Act.put, List.setIfInBounds_toArray, List.set_cons_zero, List.set_cons_succ]
    refine wpAnyH_ready (rs := [3]) (by kernel_rfl) (by simp) ?_
    refine AllReadyH.cons (o := ⟨_, _, _, _, _, _⟩) rfl (fun K hK => ?_) AllReadyH.nil
    go_simp
    obtain ⟨b9, V9, eb9, ev9, hx9, hb, hz9⟩ := mk_bx V10 #[.int .i64 0, .int .i64 0, .int .i64 0, .int .i64 0, .int .i64 0, .int .i64 0, .int .i64 0, .int .i64 0, .int .i64 0, .int .i64 0] 25
    try (have ne9_10 : b9 ≠ b10 := by have := hx10.lt; have := eb9.out; omega)
    try (have ne9_11 : b9 ≠ b11 := by have := hx11.lt; have := eb9.out; omega)
    have hge9 : w5.heap.size ≤ b9 := by have := eb9.out; have := hHeld.size; omega
    rw [ev9.out, eb9.out]
    clear ev9 eb9 hz9
    have hHeldN := hHeld.trans (hb.mono hHeld.size)
    have hx11 := hx11.bel hb
    have hx10 := hx10.bel hb
    have hbc := hbc.trans (hb.mono hbc.size)
    refine hK.out _ _ ?_ (fun hHeld2 => ?_)
    · exact hHeldN
    clear hK K hHeldN hb; have hHeld := hHeld2; clear hHeld2
    try simp only [Act.put, List.setIfInBounds_toArray, List.set_cons_zero, List.set_cons_succ]
    exact hCut b9 b10 b11 V9 ⟨hx9, hx10, hx11, hge9, hge10, hge11, ne9_10, ne9_11, ne10_11, hbc, hHeld⟩
  intro b9 b10 b11 Wc7_1 ⟨hx9, hx10, hx11, hge9, hge10, hge11, ne9_10, ne9_11, ne10_11, hbN, hHeldN⟩
  have hbc := hbc.trans (hbN.mono hbc.size); clear hHeld hbN; have hHeld := hHeldN; clear hHeldN
  refine wpAnyH_ready (rs := [6]) (by kernel_rfl) (by simp) ?_
  refine AllReadyH.cons (o := ⟨_, _, _, _, _, _⟩) rfl (fun K hK => ?_) AllReadyH.nil
  obtain ⟨z6_0, z6_1, z6_2, z6_3, z6_4, z6_5, z6_6, z6_7, z6_8, z6_9⟩ := hx9.at_.c10
  have f6_0 := hx9.fz 0
  have f6_1 := hx9.fz 1
  have f6_2 := hx9.fz 2
  have f6_3 := hx9.fz 3
  have f6_4 := hx9.fz 4
  have f6_5 := hx9.fz 5
  have f6_6 := hx9.fz 6
  have f6_7 := hx9.fz 7
  have f6_8 := hx9.fz 8
  have f6_9 := hx9.fz 9
  have hset := ((((((((((hx9.set (j := 0) (.int .i64 s.salt.lo) (by simp)).set (j := 1) (.int .i64 s.salt.hi) (by simp)).set (j := 2) (.int .i64 s.limit) (by simp)).set (j := 3) (.int .i64 s.crop) (by simp)).set (j := 4) (.int .i64 s.mineral.lo) (by simp)).set (j := 5) (.int .i64 s.mineral.hi) (by simp)).set (j := 6) (.int .i64 s.wash.lo) (by simp)).set (j := 7) (.int .i64 s.wash.hi) (by simp)).set (j := 8) (.int .i64 s.rise.lo) (by simp)).set (j := 9) (.int .i64 s.rise.hi) (by simp))
  simp only [List.set_cons_zero, List.set_cons_succ] at hset
  have kst : Kept (fun x => x ≠ b9) Wc7_1 ((((((((((Wc7_1.setCell ⟨b9, 0, none⟩ (.int .i64 s.salt.lo)).setCell ⟨b9, 1, none⟩ (.int .i64 s.salt.hi)).setCell ⟨b9, 2, none⟩ (.int .i64 s.limit)).setCell ⟨b9, 3, none⟩ (.int .i64 s.crop)).setCell ⟨b9, 4, none⟩ (.int .i64 s.mineral.lo)).setCell ⟨b9, 5, none⟩ (.int .i64 s.mineral.hi)).setCell ⟨b9, 6, none⟩ (.int .i64 s.wash.lo)).setCell ⟨b9, 7, none⟩ (.int .i64 s.wash.hi)).setCell ⟨b9, 8, none⟩ (.int .i64 s.rise.lo)).setCell ⟨b9, 9, none⟩ (.int .i64 s.rise.hi)) := (((((((((Kept.setCell Wc7_1 ⟨b9, 0, none⟩ (.int .i64 s.salt.lo)).trans (Kept.setCell (Wc7_1.setCell ⟨b9, 0, none⟩ (.int .i64 s.salt.lo)) ⟨b9, 1, none⟩ (.int .i64 s.salt.hi))).trans (Kept.setCell ((Wc7_1.setCell ⟨b9, 0, none⟩ (.int .i64 s.salt.lo)).setCell ⟨b9, 1, none⟩ (.int .i64 s.salt.hi)) ⟨b9, 2, none⟩ (.int .i64 s.limit))).trans (Kept.setCell (((Wc7_1.setCell ⟨b9, 0, none⟩ (.int .i64 s.salt.lo)).setCell ⟨b9, 1, none⟩ (.int .i64 s.salt.hi)).setCell ⟨b9, 2, none⟩ (.int .i64 s.limit)) ⟨b9, 3, none⟩ (.int .i64 s.crop))).trans (Kept.setCell ((((Wc7_1.setCell ⟨b9, 0, none⟩ (.int .i64 s.salt.lo)).setCell ⟨b9, 1, none⟩ (.int .i64 s.salt.hi)).setCell ⟨b9, 2, none⟩ (.int .i64 s.limit)).setCell ⟨b9, 3, none⟩ (.int .i64 s.crop)) ⟨b9, 4, none⟩ (.int .i64 s.mineral.lo))).trans (Kept.setCell (((((Wc7_1.setCell ⟨b9, 0, none⟩ (.int .i64 s.salt.lo)).setCell ⟨b9, 1, none⟩ (.int .i64 s.salt.hi)).setCell ⟨b9, 2, none⟩ (.int .i64 s.limit)).setCell ⟨b9, 3, none⟩ (.int .i64 s.crop)).setCell ⟨b9, 4, none⟩ (.int .i64 s.mineral.lo)) ⟨b9, 5, none⟩ (.int .i64 s.mineral.hi))).trans (Kept.setCell ((((((Wc7_1.setCell ⟨b9, 0, none⟩ (.int .i64 s.salt.lo)).setCell ⟨b9, 1, none⟩ (.int .i64 s.salt.hi)).setCell ⟨b9, 2, none⟩ (.int .i64 s.limit)).setCell ⟨b9, 3, none⟩ (.int .i64 s.crop)).setCell ⟨b9, 4, none⟩ (.int .i64 s.mineral.lo)).setCell ⟨b9, 5, none⟩ (.int .i64 s.mineral.hi)) ⟨b9, 6, none⟩ (.int .i64 s.wash.lo))).trans (Kept.setCell (((((((Wc7_1.setCell ⟨b9, 0, none⟩ (.int .i64 s.salt.lo)).setCell ⟨b9, 1, none⟩ (.int .i64 s.salt.hi)).setCell ⟨b9, 2, none⟩ (.int .i64 s.limit)).setCell ⟨b9, 3, none⟩ (.int .i64 s.crop)).setCell ⟨b9, 4, none⟩ (.int .i64 s.mineral.lo)).setCell ⟨b9, 5, none⟩ (.int .i64 s.mineral.hi)).setCell ⟨b9, 6, none⟩ (.int .i64 s.wash.lo)) ⟨b9, 7, none⟩ (.int .i64 s.wash.hi))).trans (Kept.setCell ((((((((Wc7_1.setCell ⟨b9, 0, none⟩ (.int .i64 s.salt.lo)).setCell ⟨b9, 1, none⟩ (.int .i64 s.salt.hi)).setCell ⟨b9, 2, none⟩ (.int .i64 s.limit)).setCell ⟨b9, 3, none⟩ (.int .i64 s.crop)).setCell ⟨b9, 4, none⟩ (.int .i64 s.mineral.lo)).setCell ⟨b9, 5, none⟩ (.int .i64 s.mineral.hi)).setCell ⟨b9, 6, none⟩ (.int .i64 s.wash.lo)).setCell ⟨b9, 7, none⟩ (.int .i64 s.wash.hi)) ⟨b9, 8, none⟩ (.int .i64 s.rise.lo))).trans (Kept.setCell (((((((((Wc7_1.setCell ⟨b9, 0, none⟩ (.int .i64 s.salt.lo)).setCell ⟨b9, 1, none⟩ (.int .i64 s.salt.hi)).setCell ⟨b9, 2, none⟩ (.int .i64 s.limit)).setCell ⟨b9, 3, none⟩ (.int .i64 s.crop)).setCell ⟨b9, 4, none⟩ (.int .i64 s.mineral.lo)).setCell ⟨b9, 5, none⟩ (.int .i64 s.mineral.hi)).setCell ⟨b9, 6, none⟩ (.int .i64 s.wash.lo)).setCell ⟨b9, 7, none⟩ (.int .i64 s.wash.hi)).setCell ⟨b9, 8, none⟩ (.int .i64 s.rise.lo)) ⟨b9, 9, none⟩ (.int .i64 s.rise.hi))
  go_simp
  clear z6_0 f6_0 z6_1 f6_1 z6_2 f6_2 z6_3 f6_3 z6_4 f6_4 z6_5 f6_5 z6_6 f6_6 z6_7 f6_7 z6_8 f6_8 z6_9 f6_9
  obtain ⟨V1006, hV⟩ : ∃ V1006, Hid (((((((((((Wc7_1.setCell ⟨b9, 0, none⟩ (.int .i64 s.salt.lo)).setCell ⟨b9, 1, none⟩ (.int .i64 s.salt.hi)).setCell ⟨b9, 2, none⟩ (.int .i64 s.limit)).setCell ⟨b9, 3, none⟩ (.int .i64 s.crop)).setCell ⟨b9, 4, none⟩ (.int .i64 s.mineral.lo)).setCell ⟨b9, 5, none⟩ (.int .i64 s.mineral.hi)).setCell ⟨b9, 6, none⟩ (.int .i64 s.wash.lo)).setCell ⟨b9, 7, none⟩ (.int .i64 s.wash.hi)).setCell ⟨b9, 8, none⟩ (.int .i64 s.rise.lo)).setCell ⟨b9, 9, none⟩ (.int .i64 s.rise.hi)) = V1006) := ⟨_, hide rfl⟩
  rw [hV.out] at hset kst ⊢
  clear hV
  replace hx10 := hx10.kept kst (ne9_10.symm)
  replace hx11 := hx11.kept kst (ne9_11.symm)
  replace hx9 := hset
  clear hset
  have hHeldN := hHeld.trans (kst.below (fun b hb => by omega) hHeld.size)
  refine hK.out _ _ ?_ (fun hHeld2 => ?_)
  · exact hHeldN
  clear hK K hHeld hHeldN hbc; have hHeld := hHeld2; clear hHeld2
  have hbc := Below.refl V1006.heap.size V1006
  try simp only [Act.put, List.setIfInBounds_toArray, List.set_cons_zero, List.set_cons_succ]
  refine wpAnyH_ready (rs := [7]) (by kernel_rfl) (by simp) ?_
  refine AllReadyH.cons (o := ⟨_, _, _, _, _, _⟩) rfl (fun K hK => ?_) AllReadyH.nil
  obtain ⟨z7_0, z7_1, z7_2, z7_3, z7_4, z7_5, z7_6, z7_7, z7_8, z7_9⟩ := hx10.at_.c10
  have f7_0 := hx10.fz 0
  have f7_1 := hx10.fz 1
  have f7_2 := hx10.fz 2
  have f7_3 := hx10.fz 3
  have f7_4 := hx10.fz 4
  have f7_5 := hx10.fz 5
  have f7_6 := hx10.fz 6
  have f7_7 := hx10.fz 7
  have f7_8 := hx10.fz 8
  have f7_9 := hx10.fz 9
  have hset := ((((((((((hx10.set (j := 0) (.int .i64 s.salt.lo) (by simp)).set (j := 1) (.int .i64 s.salt.hi) (by simp)).set (j := 2) (.int .i64 s.limit) (by simp)).set (j := 3) (.int .i64 s.crop) (by simp)).set (j := 4) (.int .i64 s.mineral.lo) (by simp)).set (j := 5) (.int .i64 s.mineral.hi) (by simp)).set (j := 6) (.int .i64 s.wash.lo) (by simp)).set (j := 7) (.int .i64 s.wash.hi) (by simp)).set (j := 8) (.int .i64 s.rise.lo) (by simp)).set (j := 9) (.int .i64 s.rise.hi) (by simp))
  simp only [List.set_cons_zero, List.set_cons_succ] at hset
  have kst : Kept (fun x => x ≠ b10) V1006 ((((((((((V1006.setCell ⟨b10, 0, none⟩ (.int .i64 s.salt.lo)).setCell ⟨b10, 1, none⟩ (.int .i64 s.salt.hi)).setCell ⟨b10, 2, none⟩ (.int .i64 s.limit)).setCell ⟨b10, 3, none⟩ (.int .i64 s.crop)).setCell ⟨b10, 4, none⟩ (.int .i64 s.mineral.lo)).setCell ⟨b10, 5, none⟩ (.int .i64 s.mineral.hi)).setCell ⟨b10, 6, none⟩ (.int .i64 s.wash.lo)).setCell ⟨b10, 7, none⟩ (.int .i64 s.wash.hi)).setCell ⟨b10, 8, none⟩ (.int .i64 s.rise.lo)).setCell ⟨b10, 9, none⟩ (.int .i64 s.rise.hi)) := (((((((((Kept.setCell V1006 ⟨b10, 0, none⟩ (.int .i64 s.salt.lo)).trans (Kept.setCell (V1006.setCell ⟨b10, 0, none⟩ (.int .i64 s.salt.lo)) ⟨b10, 1, none⟩ (.int .i64 s.salt.hi))).trans (Kept.setCell ((V1006.setCell ⟨b10, 0, none⟩ (.int .i64 s.salt.lo)).setCell ⟨b10, 1, none⟩ (.int .i64 s.salt.hi)) ⟨b10, 2, none⟩ (.int .i64 s.limit))).trans (Kept.setCell (((V1006.setCell ⟨b10, 0, none⟩ (.int .i64 s.salt.lo)).setCell ⟨b10, 1, none⟩ (.int .i64 s.salt.hi)).setCell ⟨b10, 2, none⟩ (.int .i64 s.limit)) ⟨b10, 3, none⟩ (.int .i64 s.crop))).trans (Kept.setCell ((((V1006.setCell ⟨b10, 0, none⟩ (.int .i64 s.salt.lo)).setCell ⟨b10, 1, none⟩ (.int .i64 s.salt.hi)).setCell ⟨b10, 2, none⟩ (.int .i64 s.limit)).setCell ⟨b10, 3, none⟩ (.int .i64 s.crop)) ⟨b10, 4, none⟩ (.int .i64 s.mineral.lo))).trans (Kept.setCell (((((V1006.setCell ⟨b10, 0, none⟩ (.int .i64 s.salt.lo)).setCell ⟨b10, 1, none⟩ (.int .i64 s.salt.hi)).setCell ⟨b10, 2, none⟩ (.int .i64 s.limit)).setCell ⟨b10, 3, none⟩ (.int .i64 s.crop)).setCell ⟨b10, 4, none⟩ (.int .i64 s.mineral.lo)) ⟨b10, 5, none⟩ (.int .i64 s.mineral.hi))).trans (Kept.setCell ((((((V1006.setCell ⟨b10, 0, none⟩ (.int .i64 s.salt.lo)).setCell ⟨b10, 1, none⟩ (.int .i64 s.salt.hi)).setCell ⟨b10, 2, none⟩ (.int .i64 s.limit)).setCell ⟨b10, 3, none⟩ (.int .i64 s.crop)).setCell ⟨b10, 4, none⟩ (.int .i64 s.mineral.lo)).setCell ⟨b10, 5, none⟩ (.int .i64 s.mineral.hi)) ⟨b10, 6, none⟩ (.int .i64 s.wash.lo))).trans (Kept.setCell (((((((V1006.setCell ⟨b10, 0, none⟩ (.int .i64 s.salt.lo)).setCell ⟨b10, 1, none⟩ (.int .i64 s.salt.hi)).setCell ⟨b10, 2, none⟩ (.int .i64 s.limit)).setCell ⟨b10, 3, none⟩ (.int .i64 s.crop)).setCell ⟨b10, 4, none⟩ (.int .i64 s.mineral.lo)).setCell ⟨b10, 5, none⟩ (.int .i64 s.mineral.hi)).setCell ⟨b10, 6, none⟩ (.int .i64 s.wash.lo)) ⟨b10, 7, none⟩ (.int .i64 s.wash.hi))).trans (Kept.setCell ((((((((V1006.setCell ⟨b10, 0, none⟩ (.int .i64 s.salt.lo)).setCell ⟨b10, 1, none⟩ (.int .i64 s.salt.hi)).setCell ⟨b10, 2, none⟩ (.int .i64 s.limit)).setCell ⟨b10, 3, none⟩ (.int .i64 s.crop)).setCell ⟨b10, 4, none⟩ (.int .i64 s.mineral.lo)).setCell ⟨b10, 5, none⟩ (.int .i64 s.mineral.hi)).setCell ⟨b10, 6, none⟩ (.int .i64 s.wash.lo)).setCell ⟨b10, 7, none⟩ (.int .i64 s.wash.hi)) ⟨b10, 8, none⟩ (.int .i64 s.rise.lo))).trans (Kept.setCell (((((((((V1006.setCell ⟨b10, 0, none⟩ (.int .i64 s.salt.lo)).setCell ⟨b10, 1, none⟩ (.int .i64 s.salt.hi)).setCell ⟨b10, 2, none⟩ (.int .i64 s.limit)).setCell ⟨b10, 3, none⟩ (.int .i64 s.crop)).setCell ⟨b10, 4, none⟩ (.int .i64 s.mineral.lo)).setCell ⟨b10, 5, none⟩ (.int .i64 s.mineral.hi)).setCell ⟨b10, 6, none⟩ (.int .i64 s.wash.lo)).setCell ⟨b10, 7, none⟩ (.int .i64 s.wash.hi)).setCell ⟨b10, 8, none⟩ (.int .i64 s.rise.lo)) ⟨b10, 9, none⟩ (.int .i64 s.rise.hi))
  go_simp
  clear z7_0 f7_0 z7_1 f7_1 z7_2 f7_2 z7_3 f7_3 z7_4 f7_4 z7_5 f7_5 z7_6 f7_6 z7_7 f7_7 z7_8 f7_8 z7_9 f7_9
  obtain ⟨V1007, hV⟩ : ∃ V1007, Hid (((((((((((V1006.setCell ⟨b10, 0, none⟩ (.int .i64 s.salt.lo)).setCell ⟨b10, 1, none⟩ (.int .i64 s.salt.hi)).setCell ⟨b10, 2, none⟩ (.int .i64 s.limit)).setCell ⟨b10, 3, none⟩ (.int .i64 s.crop)).setCell ⟨b10, 4, none⟩ (.int .i64 s.mineral.lo)).setCell ⟨b10, 5, none⟩ (.int .i64 s.mineral.hi)).setCell ⟨b10, 6, none⟩ (.int .i64 s.wash.lo)).setCell ⟨b10, 7, none⟩ (.int .i64 s.wash.hi)).setCell ⟨b10, 8, none⟩ (.int .i64 s.rise.lo)).setCell ⟨b10, 9, none⟩ (.int .i64 s.rise.hi)) = V1007) := ⟨_, hide rfl⟩
  rw [hV.out] at hset kst ⊢
  clear hV
  replace hx9 := hx9.kept kst (ne9_10)
  replace hx11 := hx11.kept kst (ne10_11.symm)
  replace hx10 := hset
  clear hset
  have hHeldN := hHeld.trans (kst.below (fun b hb => by omega) hHeld.size)
  refine hK.out _ _ ?_ (fun hHeld2 => ?_)
  · exact hHeldN
  clear hK K hHeld hHeldN hbc; have hHeld := hHeld2; clear hHeld2
  have hbc := Below.refl V1007.heap.size V1007
  try simp only [Act.put, List.setIfInBounds_toArray, List.set_cons_zero, List.set_cons_succ]
  refine wpAnyH_ready (rs := [8]) (by kernel_rfl) (by simp) ?_
  refine AllReadyH.cons (o := ⟨_, _, _, _, _, _⟩) rfl (fun K hK => ?_) AllReadyH.nil
  obtain ⟨z8_0, z8_1, z8_2, z8_3, z8_4, z8_5, z8_6, z8_7, z8_8, z8_9⟩ := hx11.at_.c10
  have f8_0 := hx11.fz 0
  have f8_1 := hx11.fz 1
  have f8_2 := hx11.fz 2
  have f8_3 := hx11.fz 3
  have f8_4 := hx11.fz 4
  have f8_5 := hx11.fz 5
  have f8_6 := hx11.fz 6
  have f8_7 := hx11.fz 7
  have f8_8 := hx11.fz 8
  have f8_9 := hx11.fz 9
  have hset := ((((((((((hx11.set (j := 0) (.int .i64 s.salt.lo) (by simp)).set (j := 1) (.int .i64 s.salt.hi) (by simp)).set (j := 2) (.int .i64 s.limit) (by simp)).set (j := 3) (.int .i64 s.crop) (by simp)).set (j := 4) (.int .i64 s.mineral.lo) (by simp)).set (j := 5) (.int .i64 s.mineral.hi) (by simp)).set (j := 6) (.int .i64 s.wash.lo) (by simp)).set (j := 7) (.int .i64 s.wash.hi) (by simp)).set (j := 8) (.int .i64 s.rise.lo) (by simp)).set (j := 9) (.int .i64 s.rise.hi) (by simp))
  simp only [List.set_cons_zero, List.set_cons_succ] at hset
  have kst : Kept (fun x => x ≠ b11) V1007 ((((((((((V1007.setCell ⟨b11, 0, none⟩ (.int .i64 s.salt.lo)).setCell ⟨b11, 1, none⟩ (.int .i64 s.salt.hi)).setCell ⟨b11, 2, none⟩ (.int .i64 s.limit)).setCell ⟨b11, 3, none⟩ (.int .i64 s.crop)).setCell ⟨b11, 4, none⟩ (.int .i64 s.mineral.lo)).setCell ⟨b11, 5, none⟩ (.int .i64 s.mineral.hi)).setCell ⟨b11, 6, none⟩ (.int .i64 s.wash.lo)).setCell ⟨b11, 7, none⟩ (.int .i64 s.wash.hi)).setCell ⟨b11, 8, none⟩ (.int .i64 s.rise.lo)).setCell ⟨b11, 9, none⟩ (.int .i64 s.rise.hi)) := (((((((((Kept.setCell V1007 ⟨b11, 0, none⟩ (.int .i64 s.salt.lo)).trans (Kept.setCell (V1007.setCell ⟨b11, 0, none⟩ (.int .i64 s.salt.lo)) ⟨b11, 1, none⟩ (.int .i64 s.salt.hi))).trans (Kept.setCell ((V1007.setCell ⟨b11, 0, none⟩ (.int .i64 s.salt.lo)).setCell ⟨b11, 1, none⟩ (.int .i64 s.salt.hi)) ⟨b11, 2, none⟩ (.int .i64 s.limit))).trans (Kept.setCell (((V1007.setCell ⟨b11, 0, none⟩ (.int .i64 s.salt.lo)).setCell ⟨b11, 1, none⟩ (.int .i64 s.salt.hi)).setCell ⟨b11, 2, none⟩ (.int .i64 s.limit)) ⟨b11, 3, none⟩ (.int .i64 s.crop))).trans (Kept.setCell ((((V1007.setCell ⟨b11, 0, none⟩ (.int .i64 s.salt.lo)).setCell ⟨b11, 1, none⟩ (.int .i64 s.salt.hi)).setCell ⟨b11, 2, none⟩ (.int .i64 s.limit)).setCell ⟨b11, 3, none⟩ (.int .i64 s.crop)) ⟨b11, 4, none⟩ (.int .i64 s.mineral.lo))).trans (Kept.setCell (((((V1007.setCell ⟨b11, 0, none⟩ (.int .i64 s.salt.lo)).setCell ⟨b11, 1, none⟩ (.int .i64 s.salt.hi)).setCell ⟨b11, 2, none⟩ (.int .i64 s.limit)).setCell ⟨b11, 3, none⟩ (.int .i64 s.crop)).setCell ⟨b11, 4, none⟩ (.int .i64 s.mineral.lo)) ⟨b11, 5, none⟩ (.int .i64 s.mineral.hi))).trans (Kept.setCell ((((((V1007.setCell ⟨b11, 0, none⟩ (.int .i64 s.salt.lo)).setCell ⟨b11, 1, none⟩ (.int .i64 s.salt.hi)).setCell ⟨b11, 2, none⟩ (.int .i64 s.limit)).setCell ⟨b11, 3, none⟩ (.int .i64 s.crop)).setCell ⟨b11, 4, none⟩ (.int .i64 s.mineral.lo)).setCell ⟨b11, 5, none⟩ (.int .i64 s.mineral.hi)) ⟨b11, 6, none⟩ (.int .i64 s.wash.lo))).trans (Kept.setCell (((((((V1007.setCell ⟨b11, 0, none⟩ (.int .i64 s.salt.lo)).setCell ⟨b11, 1, none⟩ (.int .i64 s.salt.hi)).setCell ⟨b11, 2, none⟩ (.int .i64 s.limit)).setCell ⟨b11, 3, none⟩ (.int .i64 s.crop)).setCell ⟨b11, 4, none⟩ (.int .i64 s.mineral.lo)).setCell ⟨b11, 5, none⟩ (.int .i64 s.mineral.hi)).setCell ⟨b11, 6, none⟩ (.int .i64 s.wash.lo)) ⟨b11, 7, none⟩ (.int .i64 s.wash.hi))).trans (Kept.setCell ((((((((V1007.setCell ⟨b11, 0, none⟩ (.int .i64 s.salt.lo)).setCell ⟨b11, 1, none⟩ (.int .i64 s.salt.hi)).setCell ⟨b11, 2, none⟩ (.int .i64 s.limit)).setCell ⟨b11, 3, none⟩ (.int .i64 s.crop)).setCell ⟨b11, 4, none⟩ (.int .i64 s.mineral.lo)).setCell ⟨b11, 5, none⟩ (.int .i64 s.mineral.hi)).setCell ⟨b11, 6, none⟩ (.int .i64 s.wash.lo)).setCell ⟨b11, 7, none⟩ (.int .i64 s.wash.hi)) ⟨b11, 8, none⟩ (.int .i64 s.rise.lo))).trans (Kept.setCell (((((((((V1007.setCell ⟨b11, 0, none⟩ (.int .i64 s.salt.lo)).setCell ⟨b11, 1, none⟩ (.int .i64 s.salt.hi)).setCell ⟨b11, 2, none⟩ (.int .i64 s.limit)).setCell ⟨b11, 3, none⟩ (.int .i64 s.crop)).setCell ⟨b11, 4, none⟩ (.int .i64 s.mineral.lo)).setCell ⟨b11, 5, none⟩ (.int .i64 s.mineral.hi)).setCell ⟨b11, 6, none⟩ (.int .i64 s.wash.lo)).setCell ⟨b11, 7, none⟩ (.int .i64 s.wash.hi)).setCell ⟨b11, 8, none⟩ (.int .i64 s.rise.lo)) ⟨b11, 9, none⟩ (.int .i64 s.rise.hi))
  go_simp
  clear z8_0 f8_0 z8_1 f8_1 z8_2 f8_2 z8_3 f8_3 z8_4 f8_4 z8_5 f8_5 z8_6 f8_6 z8_7 f8_7 z8_8 f8_8 z8_9 f8_9
  obtain ⟨V1008, hV⟩ : ∃ V1008, Hid (((((((((((V1007.setCell ⟨b11, 0, none⟩ (.int .i64 s.salt.lo)).setCell ⟨b11, 1, none⟩ (.int .i64 s.salt.hi)).setCell ⟨b11, 2, none⟩ (.int .i64 s.limit)).setCell ⟨b11, 3, none⟩ (.int .i64 s.crop)).setCell ⟨b11, 4, none⟩ (.int .i64 s.mineral.lo)).setCell ⟨b11, 5, none⟩ (.int .i64 s.mineral.hi)).setCell ⟨b11, 6, none⟩ (.int .i64 s.wash.lo)).setCell ⟨b11, 7, none⟩ (.int .i64 s.wash.hi)).setCell ⟨b11, 8, none⟩ (.int .i64 s.rise.lo)).setCell ⟨b11, 9, none⟩ (.int .i64 s.rise.hi)) = V1008) := ⟨_, hide rfl⟩
  rw [hV.out] at hset kst ⊢
  clear hV
  replace hx9 := hx9.kept kst (ne9_11)
  replace hx10 := hx10.kept kst (ne10_11)
  replace hx11 := hset
  clear hset
  have hHeldN := hHeld.trans (kst.below (fun b hb => by omega) hHeld.size)
  refine hK.out _ _ ?_ (fun hHeld2 => ?_)
  · exact hHeldN
  clear hK K hHeld hHeldN hbc; have hHeld := hHeld2; clear hHeld2
  have hbc := Below.refl V1008.heap.size V1008
  try simp only [Act.put, List.setIfInBounds_toArray, List.set_cons_zero, List.set_cons_succ]
  refine wpAnyH_done (by kernel_rfl) ?_ _
  obtain ⟨w7, rfl⟩ : ∃ w7, w7 = V1008 := ⟨V1008, rfl⟩
  have l3 := hx3.lt
  have l4 := hx4.lt
  have ww5 := hB.size
  replace hB := hB.trans (hHeld.mono hB.size)
  replace Hx3 := hide (Hx3.out.bel hHeld)
  have Hx4 := hide (hx4.bel hHeld)
  replace rby := Hby.out.bel hB
  have Hx10 := hide hx10; have Hx11 := hide hx11
  clear hHeld hbc hx3 hx4 hx10 hx11
  go_upto_region 8 with fail
  refine wp_region_held_drew (S := (fun W => Kept (fun b => b ≠ b9) w7 W)) (by kernel_rfl) (by (try dsimp only); exact Kept.all _ (Below.refl _ _).drew) (fun hHeld => ?_)
  have hdr : Below w7.heap.size w7 (World.drew w7) := (Below.refl _ _).drew
  generalize World.drew w7 = Wd8 at hHeld hdr ⊢
  have rby := rby.bel hdr
  have hx9 := hx9.bel hdr
  have hbc := Below.refl Wd8.heap.size Wd8
  refine wpAnyH_take (i := 0) (oi := ⟨_, _, _, _, _, _⟩) (v := ?_) rfl (by kernel_rfl) (by kernel_rfl) (by kernel_rfl) (fun _ _ _ h => h) (Or.inl ⟨by rfl, ?_⟩) hHeld ?_
  rotate_left
  · (intro w hSw; (try dsimp only at hSw); go_simp; try (with_reducible rfl))
  try simp only [Act.put, List.setIfInBounds_toArray, List.set_cons_zero, List.set_cons_succ]
  refine wpAnyH_take (i := 1) (oi := ⟨_, _, _, _, _, _⟩) (v := ?_) rfl (by kernel_rfl) (by kernel_rfl) (by kernel_rfl) (fun _ _ _ h => h) (Or.inl ⟨by rfl, ?_⟩) hHeld ?_
  rotate_left
  · (intro w hSw; (try dsimp only at hSw); go_simp; try (with_reducible rfl))
  try simp only [Act.put, List.setIfInBounds_toArray, List.set_cons_zero, List.set_cons_succ]
  refine wpAnyH_take (i := 2) (oi := ⟨_, _, _, _, _, _⟩) (v := ?_) rfl (by kernel_rfl) (by kernel_rfl) (by kernel_rfl) (fun _ _ _ h => h) (Or.inl ⟨by rfl, ?_⟩) hHeld ?_
  rotate_left
  · (intro w hSw; (try dsimp only at hSw); obtain ⟨q0, q1, q2, q3, q4, q5, q6, q7, q8, q9⟩ := (Hx3.out.kept hSw (by omega)).at_.c10; go_simp; try (with_reducible rfl))
  try simp only [Act.put, List.setIfInBounds_toArray, List.set_cons_zero, List.set_cons_succ]
  refine wpAnyH_take (i := 3) (oi := ⟨_, _, _, _, _, _⟩) (v := ?_) rfl (by kernel_rfl) (by kernel_rfl) (by kernel_rfl) (fun _ _ _ h => h) (Or.inl ⟨by rfl, ?_⟩) hHeld ?_
  rotate_left
  · (intro w hSw; (try dsimp only at hSw); go_simp; try (with_reducible rfl))
  try simp only [Act.put, List.setIfInBounds_toArray, List.set_cons_zero, List.set_cons_succ]
  refine wpAnyH_take (i := 6) (oi := ⟨_, _, _, _, _, _⟩) (v := ?_) rfl (by kernel_rfl) (by kernel_rfl) (by kernel_rfl) (fun _ _ _ h => h) (Or.inl ⟨by rfl, ?_⟩) hHeld ?_
  rotate_left
  · (intro w hSw; (try dsimp only at hSw); go_simp; try (with_reducible rfl))
  try simp only [Act.put, List.setIfInBounds_toArray, List.set_cons_zero, List.set_cons_succ]
  refine wpAnyH_take (i := 7) (oi := ⟨_, _, _, _, _, _⟩) (v := ?_) rfl (by kernel_rfl) (by kernel_rfl) (by kernel_rfl) (fun _ _ _ h => h) (Or.inl ⟨by rfl, ?_⟩) hHeld ?_
  rotate_left
  · (intro w hSw; (try dsimp only at hSw); go_simp; try (with_reducible rfl))
  try simp only [Act.put, List.setIfInBounds_toArray, List.set_cons_zero, List.set_cons_succ]
  refine wpAnyH_take (i := 8) (oi := ⟨_, _, _, _, _, _⟩) (v := ?_) rfl (by kernel_rfl) (by kernel_rfl) (by kernel_rfl) (fun _ _ _ h => h) (Or.inl ⟨by rfl, ?_⟩) hHeld ?_
  rotate_left
  · (intro w hSw; (try dsimp only at hSw); obtain ⟨q0, q1, q2, q3, q4, q5, q6, q7, q8, q9⟩ := (Hx3.out.kept hSw (by omega)).at_.c10; go_simp; try (with_reducible rfl))
  try simp only [Act.put, List.setIfInBounds_toArray, List.set_cons_zero, List.set_cons_succ]
  refine wpAnyH_take (i := 9) (oi := ⟨_, _, _, _, _, _⟩) (v := ?_) rfl (by kernel_rfl) (by kernel_rfl) (by kernel_rfl) (fun _ _ _ h => h) (Or.inl ⟨by rfl, ?_⟩) hHeld ?_
  rotate_left
  · (intro w hSw; (try dsimp only at hSw); go_simp; try (with_reducible rfl))
  try simp only [Act.put, List.setIfInBounds_toArray, List.set_cons_zero, List.set_cons_succ]
  refine wpAnyH_ready (rs := [4]) (by kernel_rfl) (by simp) ?_
  refine AllReadyH.cons (o := ⟨_, _, _, _, _, _⟩) rfl (fun K hK => ?_) AllReadyH.nil
  go_simp
  refine (sat_any A nb cb bys 0 _ Hnb.out H32.out rby hnb2 (by omega) (by omega)).mono ?_
  rintro e V46 ⟨m46, rfl, hm46, hb⟩
  go_wp2_with fail
  have hHeldN := hHeld.trans (Kept.all _ hb)
  have rby := rby.bel hb
  have hx9 := hx9.bel hb
  have hbc := hbc.trans (hb.mono hbc.size)
  refine hK.out _ _ ?_ (fun hHeld2 => ?_)
  · exact hHeldN
  clear hK K hHeld hHeldN hb; have hHeld := hHeld2; clear hHeld2
  try simp only [Act.put, List.setIfInBounds_toArray, List.set_cons_zero, List.set_cons_succ]
  refine wpAnyH_ready (rs := [5]) (by kernel_rfl) (by simp) ?_
  refine AllReadyH.cons (o := ⟨_, _, _, _, _, _⟩) rfl (fun K hK => ?_) AllReadyH.nil
  go_simp
  refine (sup_any s.salt.lo s.salt.hi 100000000 m46 _ F.a0l F.a01 F.a1k (by omega) hm46).mono ?_
  rintro e V47 ⟨k47, rfl, hk47, hb⟩
  go_wp2_with fail
  have hHeldN := hHeld.trans (Kept.all _ hb)
  have rby := rby.bel hb
  have hx9 := hx9.bel hb
  have hbc := hbc.trans (hb.mono hbc.size)
  refine hK.out _ _ ?_ (fun hHeld2 => ?_)
  · exact hHeldN
  clear hK K hHeld hHeldN hb; have hHeld := hHeld2; clear hHeld2
  try simp only [Act.put, List.setIfInBounds_toArray, List.set_cons_zero, List.set_cons_succ]
  refine wpAnyH_take (i := 12) (oi := ⟨_, _, _, _, _, _⟩) (v := ?_) rfl (by kernel_rfl) (by kernel_rfl) (by kernel_rfl) (fun _ _ _ h => h) (Or.inl ⟨by rfl, ?_⟩) hHeld ?_
  rotate_left
  · (intro w hSw; (try dsimp only at hSw); go_simp; try (with_reducible rfl))
  try simp only [Act.put, List.setIfInBounds_toArray, List.set_cons_zero, List.set_cons_succ]
  refine wpAnyH_ready (rs := [10]) (by kernel_rfl) (by simp) ?_
  refine AllReadyH.cons (o := ⟨_, _, _, _, _, _⟩) rfl (fun K hK => ?_) AllReadyH.nil
  go_simp
  refine (sat_any A nb cb bys 1 _ Hnb.out H32.out rby hnb2 (by omega) (by omega)).mono ?_
  rintro e V52 ⟨m52, rfl, hm52, hb⟩
  go_wp2_with fail
  have hHeldN := hHeld.trans (Kept.all _ hb)
  have rby := rby.bel hb
  have hx9 := hx9.bel hb
  have hbc := hbc.trans (hb.mono hbc.size)
  refine hK.out _ _ ?_ (fun hHeld2 => ?_)
  · exact hHeldN
  clear hK K hHeld hHeldN hb; have hHeld := hHeld2; clear hHeld2
  try simp only [Act.put, List.setIfInBounds_toArray, List.set_cons_zero, List.set_cons_succ]
  refine wpAnyH_ready (rs := [11]) (by kernel_rfl) (by simp) ?_
  refine AllReadyH.cons (o := ⟨_, _, _, _, _, _⟩) rfl (fun K hK => ?_) AllReadyH.nil
  go_simp
  refine (sup_any s.rise.lo s.rise.hi 100000000 m52 _ F.r0l F.r01 F.r1h (by omega) hm52).mono ?_
  rintro e V53 ⟨k53, rfl, hk53, hb⟩
  go_wp2_with fail
  have hHeldN := hHeld.trans (Kept.all _ hb)
  have rby := rby.bel hb
  have hx9 := hx9.bel hb
  have hbc := hbc.trans (hb.mono hbc.size)
  refine hK.out _ _ ?_ (fun hHeld2 => ?_)
  · exact hHeldN
  clear hK K hHeld hHeldN hb; have hHeld := hHeld2; clear hHeld2
  try simp only [Act.put, List.setIfInBounds_toArray, List.set_cons_zero, List.set_cons_succ]
  refine wpAnyH_ready (rs := [13]) (by kernel_rfl) (by simp) ?_
  refine AllReadyH.cons (o := ⟨_, _, _, _, _, _⟩) rfl (fun K hK => ?_) AllReadyH.nil
  obtain ⟨z0, z1, z2, z3, z4, z5, z6, z7, z8, z9⟩ := hx9.at_.c10
  have f0 := hx9.fz 0
  have f1 := hx9.fz 1
  go_simp
  refine hK.out _ _ ?_ (fun hHeld2 => ?_)
  · (try dsimp only); exact (hHeld.trans (Kept.setCell _ ⟨b9, 0, none⟩ _)).trans (Kept.setCell _ ⟨b9, 1, none⟩ _)
  clear hK K hHeld; have hHeld := hHeld2; clear hHeld2
  try simp only [Act.put, List.setIfInBounds_toArray, List.set_cons_zero, List.set_cons_succ]
  refine wpAnyH_take (i := 14) (oi := ⟨_, _, _, _, _, _⟩) (v := ?_) rfl (by kernel_rfl) (by kernel_rfl) (by kernel_rfl) (fun _ _ _ h => h) (Or.inl ⟨by rfl, ?_⟩) hHeld ?_
  rotate_left
  · (intro w hSw; (try dsimp only at hSw); go_simp; try (with_reducible rfl))
  try simp only [Act.put, List.setIfInBounds_toArray, List.set_cons_zero, List.set_cons_succ]
  refine wpAnyH_ready (rs := [15]) (by kernel_rfl) (by simp) ?_
  refine AllReadyH.cons (o := ⟨_, _, _, _, _, _⟩) rfl (fun K hK => ?_) AllReadyH.nil
  obtain ⟨z0, z1, z2, z3, z4, z5, z6, z7, z8, z9⟩ := hx9.at_.c10
  have f8 := hx9.fz 8
  have f9 := hx9.fz 9
  go_simp
  refine hK.out _ _ ?_ (fun hHeld2 => ?_)
  · (try dsimp only); exact (hHeld.trans (Kept.setCell _ ⟨b9, 8, none⟩ _)).trans (Kept.setCell _ ⟨b9, 9, none⟩ _)
  clear hK K hHeld; have hHeld := hHeld2; clear hHeld2
  try simp only [Act.put, List.setIfInBounds_toArray, List.set_cons_zero, List.set_cons_succ]
  refine wpAnyH_done (by kernel_rfl) ?_ _
  have X9 : Bx ((((V53.setCell ⟨b9, 0, none⟩ (.int .i64 (s.salt.lo + k47))).setCell ⟨b9, 1, none⟩ (.int .i64 (s.salt.hi + k47))).setCell ⟨b9, 8, none⟩ (.int .i64 (s.rise.lo + k53))).setCell ⟨b9, 9, none⟩ (.int .i64 (s.rise.hi + k53))) b9 [.int .i64 (s.salty k47 k53).salt.lo, .int .i64 (s.salty k47 k53).salt.hi, .int .i64 (s.salty k47 k53).limit, .int .i64 (s.salty k47 k53).crop, .int .i64 (s.salty k47 k53).mineral.lo, .int .i64 (s.salty k47 k53).mineral.hi, .int .i64 (s.salty k47 k53).wash.lo, .int .i64 (s.salty k47 k53).wash.hi, .int .i64 (s.salty k47 k53).rise.lo, .int .i64 (s.salty k47 k53).rise.hi] := by
    have h := ((((hx9.set (j := 0) (.int .i64 (s.salt.lo + k47)) (by simp)).set (j := 1) (.int .i64 (s.salt.hi + k47)) (by simp)).set (j := 8) (.int .i64 (s.rise.lo + k53)) (by simp)).set (j := 9) (.int .i64 (s.rise.hi + k53)) (by simp))
    simp only [List.set_cons_zero, List.set_cons_succ] at h
    exact h
  obtain ⟨w8, hww8⟩ : ∃ w8, Hid (((((V53.setCell ⟨b9, 0, none⟩ (.int .i64 (s.salt.lo + k47))).setCell ⟨b9, 1, none⟩ (.int .i64 (s.salt.hi + k47))).setCell ⟨b9, 8, none⟩ (.int .i64 (s.rise.lo + k53))).setCell ⟨b9, 9, none⟩ (.int .i64 (s.rise.hi + k53))) = w8) := ⟨_, hide rfl⟩
  rw [hww8.out] at hHeld X9 ⊢
  replace hB := hB.trans (hHeld.below (fun b hb => by omega) hB.size)
  replace rby := Hby.out.bel hB
  replace Hx3 := hide (Hx3.out.kept hHeld (by omega)); replace Hx4 := hide (Hx4.out.kept hHeld (by omega)); replace Hx11 := hide (Hx11.out.kept hHeld (by omega))
  have hx10 := Hx10.out.kept hHeld (by omega)
  have HX9 := hide X9
  clear hHeld hbc X9 hx9 Hx10 hww8
  go_upto_region 9 with fail
  refine wp_region_held_drew (S := (fun W => Kept (fun b => b ≠ b10) w8 W)) (by kernel_rfl) (by (try dsimp only); exact Kept.all _ (Below.refl _ _).drew) (fun hHeld => ?_)
  have hdr : Below w8.heap.size w8 (World.drew w8) := (Below.refl _ _).drew
  generalize World.drew w8 = Wd9 at hHeld hdr ⊢
  have rby := rby.bel hdr
  have hx10 := hx10.bel hdr
  have hbc := Below.refl Wd9.heap.size Wd9
  refine wpAnyH_take (i := 0) (oi := ⟨_, _, _, _, _, _⟩) (v := ?_) rfl (by kernel_rfl) (by kernel_rfl) (by kernel_rfl) (fun _ _ _ h => h) (Or.inl ⟨by rfl, ?_⟩) hHeld ?_
  rotate_left
  · (intro w hSw; (try dsimp only at hSw); go_simp; try (with_reducible rfl))
  try simp only [Act.put, List.setIfInBounds_toArray, List.set_cons_zero, List.set_cons_succ]
  refine wpAnyH_take (i := 1) (oi := ⟨_, _, _, _, _, _⟩) (v := ?_) rfl (by kernel_rfl) (by kernel_rfl) (by kernel_rfl) (fun _ _ _ h => h) (Or.inl ⟨by rfl, ?_⟩) hHeld ?_
  rotate_left
  · (intro w hSw; (try dsimp only at hSw); go_simp; try (with_reducible rfl))
  try simp only [Act.put, List.setIfInBounds_toArray, List.set_cons_zero, List.set_cons_succ]
  refine wpAnyH_take (i := 2) (oi := ⟨_, _, _, _, _, _⟩) (v := ?_) rfl (by kernel_rfl) (by kernel_rfl) (by kernel_rfl) (fun _ _ _ h => h) (Or.inl ⟨by rfl, ?_⟩) hHeld ?_
  rotate_left
  · (intro w hSw; (try dsimp only at hSw); obtain ⟨q0, q1, q2, q3, q4, q5, q6, q7, q8, q9⟩ := (Hx3.out.kept hSw (by omega)).at_.c10; go_simp; try (with_reducible rfl))
  try simp only [Act.put, List.setIfInBounds_toArray, List.set_cons_zero, List.set_cons_succ]
  refine wpAnyH_take (i := 3) (oi := ⟨_, _, _, _, _, _⟩) (v := ?_) rfl (by kernel_rfl) (by kernel_rfl) (by kernel_rfl) (fun _ _ _ h => h) (Or.inl ⟨by rfl, ?_⟩) hHeld ?_
  rotate_left
  · (intro w hSw; (try dsimp only at hSw); go_simp; try (with_reducible rfl))
  try simp only [Act.put, List.setIfInBounds_toArray, List.set_cons_zero, List.set_cons_succ]
  refine wpAnyH_ready (rs := [4]) (by kernel_rfl) (by simp) ?_
  refine AllReadyH.cons (o := ⟨_, _, _, _, _, _⟩) rfl (fun K hK => ?_) AllReadyH.nil
  go_simp
  refine (sat_any A nb cb bys 2 _ Hnb.out H32.out rby hnb2 (by omega) (by omega)).mono ?_
  rintro e V60 ⟨m60, rfl, hm60, hb⟩
  go_wp2_with fail
  have hHeldN := hHeld.trans (Kept.all _ hb)
  have rby := rby.bel hb
  have hx10 := hx10.bel hb
  have hbc := hbc.trans (hb.mono hbc.size)
  refine hK.out _ _ ?_ (fun hHeld2 => ?_)
  · exact hHeldN
  clear hK K hHeld hHeldN hb; have hHeld := hHeld2; clear hHeld2
  try simp only [Act.put, List.setIfInBounds_toArray, List.set_cons_zero, List.set_cons_succ]
  refine wpAnyH_ready (rs := [5]) (by kernel_rfl) (by simp) ?_
  refine AllReadyH.cons (o := ⟨_, _, _, _, _, _⟩) rfl (fun K hK => ?_) AllReadyH.nil
  go_simp
  refine (sup_any s.wash.lo s.wash.hi 100000 m60 _ F.w0l F.w01 F.w1h (by omega) hm60).mono ?_
  rintro e V61 ⟨k61, rfl, hk61, hb⟩
  go_wp2_with fail
  have hHeldN := hHeld.trans (Kept.all _ hb)
  have rby := rby.bel hb
  have hx10 := hx10.bel hb
  have hbc := hbc.trans (hb.mono hbc.size)
  refine hK.out _ _ ?_ (fun hHeld2 => ?_)
  · exact hHeldN
  clear hK K hHeld hHeldN hb; have hHeld := hHeld2; clear hHeld2
  try simp only [Act.put, List.setIfInBounds_toArray, List.set_cons_zero, List.set_cons_succ]
  refine wpAnyH_take (i := 6) (oi := ⟨_, _, _, _, _, _⟩) (v := ?_) rfl (by kernel_rfl) (by kernel_rfl) (by kernel_rfl) (fun _ _ _ h => h) (Or.inl ⟨by rfl, ?_⟩) hHeld ?_
  rotate_left
  · (intro w hSw; (try dsimp only at hSw); go_simp; try (with_reducible rfl))
  try simp only [Act.put, List.setIfInBounds_toArray, List.set_cons_zero, List.set_cons_succ]
  refine wpAnyH_ready (rs := [7]) (by kernel_rfl) (by simp) ?_
  refine AllReadyH.cons (o := ⟨_, _, _, _, _, _⟩) rfl (fun K hK => ?_) AllReadyH.nil
  obtain ⟨z0, z1, z2, z3, z4, z5, z6, z7, z8, z9⟩ := hx10.at_.c10
  have f6 := hx10.fz 6
  have f7 := hx10.fz 7
  go_simp
  refine hK.out _ _ ?_ (fun hHeld2 => ?_)
  · (try dsimp only); exact (hHeld.trans (Kept.setCell _ ⟨b10, 6, none⟩ _)).trans (Kept.setCell _ ⟨b10, 7, none⟩ _)
  clear hK K hHeld; have hHeld := hHeld2; clear hHeld2
  try simp only [Act.put, List.setIfInBounds_toArray, List.set_cons_zero, List.set_cons_succ]
  refine wpAnyH_done (by kernel_rfl) ?_ _
  have X10 : Bx ((V61.setCell ⟨b10, 6, none⟩ (.int .i64 (s.wash.lo + k61))).setCell ⟨b10, 7, none⟩ (.int .i64 (s.wash.hi + k61))) b10 [.int .i64 (s.washed k61).salt.lo, .int .i64 (s.washed k61).salt.hi, .int .i64 (s.washed k61).limit, .int .i64 (s.washed k61).crop, .int .i64 (s.washed k61).mineral.lo, .int .i64 (s.washed k61).mineral.hi, .int .i64 (s.washed k61).wash.lo, .int .i64 (s.washed k61).wash.hi, .int .i64 (s.washed k61).rise.lo, .int .i64 (s.washed k61).rise.hi] := by
    have h := ((hx10.set (j := 6) (.int .i64 (s.wash.lo + k61)) (by simp)).set (j := 7) (.int .i64 (s.wash.hi + k61)) (by simp))
    simp only [List.set_cons_zero, List.set_cons_succ] at h
    exact h
  obtain ⟨w9, hww9⟩ : ∃ w9, Hid (((V61.setCell ⟨b10, 6, none⟩ (.int .i64 (s.wash.lo + k61))).setCell ⟨b10, 7, none⟩ (.int .i64 (s.wash.hi + k61))) = w9) := ⟨_, hide rfl⟩
  rw [hww9.out] at hHeld X10 ⊢
  replace hB := hB.trans (hHeld.below (fun b hb => by omega) hB.size)
  replace rby := Hby.out.bel hB
  replace Hx3 := hide (Hx3.out.kept hHeld (by omega)); replace Hx4 := hide (Hx4.out.kept hHeld (by omega)); replace HX9 := hide (HX9.out.kept hHeld (by omega))
  have hx11 := Hx11.out.kept hHeld (by omega)
  have HX10 := hide X10
  clear hHeld hbc X10 hx10 Hx11 hww9
  go_upto_region 10 with fail
  refine wp_region_held_drew (S := (fun W => Kept (fun b => b ≠ b11) w9 W)) (by kernel_rfl) (by (try dsimp only); exact Kept.all _ (Below.refl _ _).drew) (fun hHeld => ?_)
  have hdr : Below w9.heap.size w9 (World.drew w9) := (Below.refl _ _).drew
  generalize World.drew w9 = Wd10 at hHeld hdr ⊢
  have rby := rby.bel hdr
  have hx11 := hx11.bel hdr
  have hbc := Below.refl Wd10.heap.size Wd10
  refine wpAnyH_take (i := 0) (oi := ⟨_, _, _, _, _, _⟩) (v := ?_) rfl (by kernel_rfl) (by kernel_rfl) (by kernel_rfl) (fun _ _ _ h => h) (Or.inl ⟨by rfl, ?_⟩) hHeld ?_
  rotate_left
  · (intro w hSw; (try dsimp only at hSw); go_simp; try (with_reducible rfl))
  try simp only [Act.put, List.setIfInBounds_toArray, List.set_cons_zero, List.set_cons_succ]
  refine wpAnyH_take (i := 1) (oi := ⟨_, _, _, _, _, _⟩) (v := ?_) rfl (by kernel_rfl) (by kernel_rfl) (by kernel_rfl) (fun _ _ _ h => h) (Or.inl ⟨by rfl, ?_⟩) hHeld ?_
  rotate_left
  · (intro w hSw; (try dsimp only at hSw); obtain ⟨q0, q1, q2, q3, q4, q5, q6, q7, q8, q9⟩ := (Hx3.out.kept hSw (by omega)).at_.c10; go_simp; try (with_reducible rfl))
  try simp only [Act.put, List.setIfInBounds_toArray, List.set_cons_zero, List.set_cons_succ]
  refine wpAnyH_take (i := 2) (oi := ⟨_, _, _, _, _, _⟩) (v := ?_) rfl (by kernel_rfl) (by kernel_rfl) (by kernel_rfl) (fun _ _ _ h => h) (Or.inl ⟨by rfl, ?_⟩) hHeld ?_
  rotate_left
  · (intro w hSw; (try dsimp only at hSw); go_simp; try (with_reducible rfl))
  try simp only [Act.put, List.setIfInBounds_toArray, List.set_cons_zero, List.set_cons_succ]
  refine wpAnyH_take (i := 5) (oi := ⟨_, _, _, _, _, _⟩) (v := ?_) rfl (by kernel_rfl) (by kernel_rfl) (by kernel_rfl) (fun _ _ _ h => h) (Or.inl ⟨by rfl, ?_⟩) hHeld ?_
  rotate_left
  · (intro w hSw; (try dsimp only at hSw); go_simp; try (with_reducible rfl))
  try simp only [Act.put, List.setIfInBounds_toArray, List.set_cons_zero, List.set_cons_succ]
  refine wpAnyH_take (i := 6) (oi := ⟨_, _, _, _, _, _⟩) (v := ?_) rfl (by kernel_rfl) (by kernel_rfl) (by kernel_rfl) (fun _ _ _ h => h) (Or.inl ⟨by rfl, ?_⟩) hHeld ?_
  rotate_left
  · (intro w hSw; (try dsimp only at hSw); obtain ⟨q0, q1, q2, q3, q4, q5, q6, q7, q8, q9⟩ := (Hx3.out.kept hSw (by omega)).at_.c10; go_simp; try (with_reducible rfl))
  try simp only [Act.put, List.setIfInBounds_toArray, List.set_cons_zero, List.set_cons_succ]
  refine wpAnyH_take (i := 7) (oi := ⟨_, _, _, _, _, _⟩) (v := ?_) rfl (by kernel_rfl) (by kernel_rfl) (by kernel_rfl) (fun _ _ _ h => h) (Or.inl ⟨by rfl, ?_⟩) hHeld ?_
  rotate_left
  · (intro w hSw; (try dsimp only at hSw); go_simp; try (with_reducible rfl))
  try simp only [Act.put, List.setIfInBounds_toArray, List.set_cons_zero, List.set_cons_succ]
  refine wpAnyH_ready (rs := [3]) (by kernel_rfl) (by simp) ?_
  refine AllReadyH.cons (o := ⟨_, _, _, _, _, _⟩) rfl (fun K hK => ?_) AllReadyH.nil
  go_simp
  refine (sat_any A nb cb bys 3 _ Hnb.out H32.out rby hnb2 (by omega) (by omega)).mono ?_
  rintro e V66 ⟨m66, rfl, hm66, hb⟩
  go_wp2_with fail
  have hHeldN := hHeld.trans (Kept.all _ hb)
  have rby := rby.bel hb
  have hx11 := hx11.bel hb
  have hbc := hbc.trans (hb.mono hbc.size)
  refine hK.out _ _ ?_ (fun hHeld2 => ?_)
  · exact hHeldN
  clear hK K hHeld hHeldN hb; have hHeld := hHeld2; clear hHeld2
  try simp only [Act.put, List.setIfInBounds_toArray, List.set_cons_zero, List.set_cons_succ]
  refine wpAnyH_ready (rs := [4]) (by kernel_rfl) (by simp) ?_
  refine AllReadyH.cons (o := ⟨_, _, _, _, _, _⟩) rfl (fun K hK => ?_) AllReadyH.nil
  go_simp
  refine (spickS s.salt m66 _ F.a0l F.a01 F.a1h hm66).mono ?_
  rintro e V67 ⟨r67, rfl, hr67, hb⟩
  go_wp2_with fail
  have hHeldN := hHeld.trans (Kept.all _ hb)
  have rby := rby.bel hb
  have hx11 := hx11.bel hb
  have hbc := hbc.trans (hb.mono hbc.size)
  refine hK.out _ _ ?_ (fun hHeld2 => ?_)
  · exact hHeldN
  clear hK K hHeld hHeldN hb; have hHeld := hHeld2; clear hHeld2
  try simp only [Act.put, List.setIfInBounds_toArray, List.set_cons_zero, List.set_cons_succ]
  refine wpAnyH_take (i := 10) (oi := ⟨_, _, _, _, _, _⟩) (v := ?_) rfl (by kernel_rfl) (by kernel_rfl) (by kernel_rfl) (fun _ _ _ h => h) (Or.inl ⟨by rfl, ?_⟩) hHeld ?_
  rotate_left
  · (intro w hSw; (try dsimp only at hSw); go_simp; try (with_reducible rfl))
  try simp only [Act.put, List.setIfInBounds_toArray, List.set_cons_zero, List.set_cons_succ]
  refine wpAnyH_take (i := 11) (oi := ⟨_, _, _, _, _, _⟩) (v := ?_) rfl (by kernel_rfl) (by kernel_rfl) (by kernel_rfl) (fun _ _ _ h => h) (Or.inl ⟨by rfl, ?_⟩) hHeld ?_
  rotate_left
  · (intro w hSw; (try dsimp only at hSw); go_simp; try (with_reducible rfl))
  try simp only [Act.put, List.setIfInBounds_toArray, List.set_cons_zero, List.set_cons_succ]
  refine wpAnyH_ready (rs := [8]) (by kernel_rfl) (by simp) ?_
  refine AllReadyH.cons (o := ⟨_, _, _, _, _, _⟩) rfl (fun K hK => ?_) AllReadyH.nil
  go_simp
  refine (sat_any A nb cb bys 4 _ Hnb.out H32.out rby hnb2 (by omega) (by omega)).mono ?_
  rintro e V71 ⟨m71, rfl, hm71, hb⟩
  go_wp2_with fail
  have hHeldN := hHeld.trans (Kept.all _ hb)
  have rby := rby.bel hb
  have hx11 := hx11.bel hb
  have hbc := hbc.trans (hb.mono hbc.size)
  refine hK.out _ _ ?_ (fun hHeld2 => ?_)
  · exact hHeldN
  clear hK K hHeld hHeldN hb; have hHeld := hHeld2; clear hHeld2
  try simp only [Act.put, List.setIfInBounds_toArray, List.set_cons_zero, List.set_cons_succ]
  refine wpAnyH_ready (rs := [9]) (by kernel_rfl) (by simp) ?_
  refine AllReadyH.cons (o := ⟨_, _, _, _, _, _⟩) rfl (fun K hK => ?_) AllReadyH.nil
  go_simp
  refine (spickS s.mineral m71 _ F.m0l F.m01 (by have := F.m1h; omega) hm71).mono ?_
  rintro e V72 ⟨r72, rfl, hr72, hb⟩
  go_wp2_with fail
  have hHeldN := hHeld.trans (Kept.all _ hb)
  have rby := rby.bel hb
  have hx11 := hx11.bel hb
  have hbc := hbc.trans (hb.mono hbc.size)
  refine hK.out _ _ ?_ (fun hHeld2 => ?_)
  · exact hHeldN
  clear hK K hHeld hHeldN hb; have hHeld := hHeld2; clear hHeld2
  try simp only [Act.put, List.setIfInBounds_toArray, List.set_cons_zero, List.set_cons_succ]
  refine wpAnyH_ready (rs := [12]) (by kernel_rfl) (by simp) ?_
  refine AllReadyH.cons (o := ⟨_, _, _, _, _, _⟩) rfl (fun K hK => ?_) AllReadyH.nil
  obtain ⟨z0, z1, z2, z3, z4, z5, z6, z7, z8, z9⟩ := hx11.at_.c10
  have f0 := hx11.fz 0
  go_simp
  refine hK.out _ _ ?_ (fun hHeld2 => ?_)
  · (try dsimp only); exact hHeld.trans (Kept.setCell _ ⟨b11, 0, none⟩ _)
  clear hK K hHeld; have hHeld := hHeld2; clear hHeld2
  try simp only [Act.put, List.setIfInBounds_toArray, List.set_cons_zero, List.set_cons_succ]
  refine wpAnyH_take (i := 13) (oi := ⟨_, _, _, _, _, _⟩) (v := ?_) rfl (by kernel_rfl) (by kernel_rfl) (by kernel_rfl) (fun _ _ _ h => h) (Or.inl ⟨by rfl, ?_⟩) hHeld ?_
  rotate_left
  · (intro w hSw; (try dsimp only at hSw); go_simp; try (with_reducible rfl))
  try simp only [Act.put, List.setIfInBounds_toArray, List.set_cons_zero, List.set_cons_succ]
  refine wpAnyH_take (i := 14) (oi := ⟨_, _, _, _, _, _⟩) (v := ?_) rfl (by kernel_rfl) (by kernel_rfl) (by kernel_rfl) (fun _ _ _ h => h) (Or.inl ⟨by rfl, ?_⟩) hHeld ?_
  rotate_left
  · (intro w hSw; (try dsimp only at hSw); go_simp; try (with_reducible rfl))
  try simp only [Act.put, List.setIfInBounds_toArray, List.set_cons_zero, List.set_cons_succ]
  refine wpAnyH_ready (rs := [15]) (by kernel_rfl) (by simp) ?_
  refine AllReadyH.cons (o := ⟨_, _, _, _, _, _⟩) rfl (fun K hK => ?_) AllReadyH.nil
  obtain ⟨z0, z1, z2, z3, z4, z5, z6, z7, z8, z9⟩ := hx11.at_.c10
  have f5 := hx11.fz 5
  go_simp
  refine hK.out _ _ ?_ (fun hHeld2 => ?_)
  · (try dsimp only); exact hHeld.trans (Kept.setCell _ ⟨b11, 5, none⟩ _)
  clear hK K hHeld; have hHeld := hHeld2; clear hHeld2
  try simp only [Act.put, List.setIfInBounds_toArray, List.set_cons_zero, List.set_cons_succ]
  refine wpAnyH_done (by kernel_rfl) ?_ _
  have X11 : Bx ((V72.setCell ⟨b11, 0, none⟩ (.int .i64 r67)).setCell ⟨b11, 5, none⟩ (.int .i64 r72)) b11 [.int .i64 (s.known r67 r72).salt.lo, .int .i64 (s.known r67 r72).salt.hi, .int .i64 (s.known r67 r72).limit, .int .i64 (s.known r67 r72).crop, .int .i64 (s.known r67 r72).mineral.lo, .int .i64 (s.known r67 r72).mineral.hi, .int .i64 (s.known r67 r72).wash.lo, .int .i64 (s.known r67 r72).wash.hi, .int .i64 (s.known r67 r72).rise.lo, .int .i64 (s.known r67 r72).rise.hi] := by
    have h := ((hx11.set (j := 0) (.int .i64 r67) (by simp)).set (j := 5) (.int .i64 r72) (by simp))
    simp only [List.set_cons_zero, List.set_cons_succ] at h
    exact h
  obtain ⟨w10, hww10⟩ : ∃ w10, Hid (((V72.setCell ⟨b11, 0, none⟩ (.int .i64 r67)).setCell ⟨b11, 5, none⟩ (.int .i64 r72)) = w10) := ⟨_, hide rfl⟩
  rw [hww10.out] at hHeld X11 ⊢
  replace hB := hB.trans (hHeld.below (fun b hb => by omega) hB.size)
  have x3 := Hx3.out.kept hHeld (by omega)
  have x4 := Hx4.out.kept hHeld (by omega)
  have x9 := HX9.out.kept hHeld (by omega)
  have x10 := HX10.out.kept hHeld (by omega)
  have x11 := X11
  have M0 := moreS (wa := wa) Hso.out F hwb.1 hwb.2.1 hk47 hk53 hk61 hr67 hr72
  obtain ⟨sa, hsa⟩ : ∃ sa, sa = s.salty k47 k53 := ⟨_, rfl⟩
  obtain ⟨wh, hwh⟩ : ∃ wh, wh = s.washed k61 := ⟨_, rfl⟩
  obtain ⟨kn, hkn⟩ : ∃ kn, kn = s.known r67 r72 := ⟨_, rfl⟩
  rw [← hsa, ← hwh, ← hkn] at M0
  rw [← hsa] at x9
  rw [← hwh] at x10
  rw [← hkn] at x11
  have M := hide M0
  clear hHeld hbc M0 X11 HX9 HX10 Hx3 Hx4 hsa hwh hkn hww10 rby
  obtain ⟨q0, q1, q2, q3, q4, q5, q6, q7, q8, q9⟩ := x3.at_.c10
  obtain ⟨p0, p1⟩ := x4.at_.c2
  go_wp2_with fail
  refine (after_soil s wa 2 _ Hso.out Hwa.out (by omega)).mono ?_
  rintro e w11 ⟨Aa, ca, rfl, ra, hb⟩
  replace x3 := x3.bel hb
  replace x4 := x4.bel hb
  replace x9 := x9.bel hb
  replace x10 := x10.bel hb
  replace x11 := x11.bel hb
  replace hB := hB.trans (hb.mono hB.size)
  clear hb q0 q1 q2 q3 q4 q5 q6 q7 q8 q9 p0 p1
  obtain ⟨q0, q1, q2, q3, q4, q5, q6, q7, q8, q9⟩ := x9.at_.c10
  obtain ⟨p0, p1⟩ := x4.at_.c2
  go_wp2_with fail
  refine (after_soil sa wa 2 _ M.out.oks Hwa.out (by omega)).mono ?_
  rintro e w12 ⟨Ab, cb2, rfl, rb, hb⟩
  replace x3 := x3.bel hb
  replace x4 := x4.bel hb
  replace x9 := x9.bel hb
  replace x10 := x10.bel hb
  replace x11 := x11.bel hb
  replace ra := ra.bel hb
  replace hB := hB.trans (hb.mono hB.size)
  clear hb q0 q1 q2 q3 q4 q5 q6 q7 q8 q9 p0 p1
  obtain ⟨q0, q1, q2, q3, q4, q5, q6, q7, q8, q9⟩ := x10.at_.c10
  obtain ⟨p0, p1⟩ := x4.at_.c2
  go_wp2_with fail
  refine (after_soil wh wa 2 _ M.out.okw Hwa.out (by omega)).mono ?_
  rintro e w13 ⟨Ac, cc, rfl, rc, hb⟩
  replace x3 := x3.bel hb
  replace x4 := x4.bel hb
  replace x9 := x9.bel hb
  replace x10 := x10.bel hb
  replace x11 := x11.bel hb
  replace ra := ra.bel hb
  replace rb := rb.bel hb
  replace hB := hB.trans (hb.mono hB.size)
  clear hb q0 q1 q2 q3 q4 q5 q6 q7 q8 q9 p0 p1
  obtain ⟨q0, q1, q2, q3, q4, q5, q6, q7, q8, q9⟩ := x11.at_.c10
  obtain ⟨p0, p1⟩ := x4.at_.c2
  go_wp2_with fail
  refine (after_soil kn wa 2 _ M.out.okk Hwa.out (by omega)).mono ?_
  rintro e w14 ⟨Ad, cd, rfl, rd, hb⟩
  replace x3 := x3.bel hb
  replace x4 := x4.bel hb
  replace x9 := x9.bel hb
  replace x10 := x10.bel hb
  replace x11 := x11.bel hb
  replace ra := ra.bel hb
  replace rb := rb.bel hb
  replace rc := rc.bel hb
  replace hB := hB.trans (hb.mono hB.size)
  clear hb q0 q1 q2 q3 q4 q5 q6 q7 q8 q9 p0 p1
  obtain ⟨ba, oa, rfl⟩ := ra.some_ (by rw [afterL_len]; omega)
  obtain ⟨bb, ob, rfl⟩ := rb.some_ (by rw [afterL_len]; omega)
  obtain ⟨bc, oc, rfl⟩ := rc.some_ (by rw [afterL_len]; omega)
  obtain ⟨bd, od, rfl⟩ := rd.some_ (by rw [afterL_len]; omega)
  have Ra := hide ra; have Rb := hide rb; have Rc := hide rc; have Rd_ := hide rd
  have X3 := hide x3; have X9 := hide x9; have X10 := hide x10
  clear ra rb rc rd x3 x4 x9 x10 x11
  go_wp2_with fail
  go_loopw [137] (fun iv wr => ∃ k : Nat, k ≤ 2 ∧ iv = .int .i64 k ∧ Below w14.heap.size w14 wr) (fun iv _ => 2 - (intOf iv).toNat)
  case atStart => exact ⟨0, by omega, rfl, Below.refl _ _⟩
  case round => as_aux_lemma =>
    obtain ⟨k, hk, rfl, hb⟩ := hrel
    by_cases hlt : k < 2
    · as_aux_lemma =>
      obtain ⟨a0, a1, hpa, ka0, ka1⟩ := (Ra.out.bel hb).sp' (i := k) (by rw [afterL_len]; exact hlt)
      obtain ⟨b0, b1, hpb, kb0, kb1⟩ := (Rb.out.bel hb).sp' (i := k) (by rw [afterL_len]; exact hlt)
      obtain ⟨c0, c1, hpc, kc0, kc1⟩ := (Rc.out.bel hb).sp' (i := k) (by rw [afterL_len]; exact hlt)
      obtain ⟨d0, d1, hpd, kd0, kd1⟩ := (Rd_.out.bel hb).sp' (i := k) (by rw [afterL_len]; exact hlt)
      have ea := afterL_at hlt hpa; have eb := afterL_at hlt hpb; have ec := afterL_at hlt hpc; have ed := afterL_at hlt hpd
      have m1 := M.out.b0 (k + 1); have m2 := M.out.b1 (k + 1); have m3 := M.out.c0 (k + 1); have m4 := M.out.c1 (k + 1); have m5 := M.out.d0 (k + 1); have m6 := M.out.d1 (k + 1)
      rw [ea, eb] at m1 m2
      rw [ea, ec] at m3 m4
      rw [ea, ed] at m5 m6
      have t1 : decide (b0 < a0) = false := decide_eq_false (Int.not_lt.2 m1)
      have t2 : decide (b1 < a1) = false := decide_eq_false (Int.not_lt.2 m2)
      have t3 : decide (a0 < c0) = false := decide_eq_false (Int.not_lt.2 m3)
      have t4 : decide (a1 < c1) = false := decide_eq_false (Int.not_lt.2 m4)
      have t5 : decide (d0 < a0) = false := decide_eq_false (Int.not_lt.2 m5)
      have t6 : decide (a1 < d1) = false := decide_eq_false (Int.not_lt.2 m6)
      have ik : (k : Int) < 2 := by omega
      clear hpa hpb hpc hpd ea eb ec ed m1 m2 m3 m4 m5 m6
      have Hb := hide hb
      clear hb
      go_upto_region 20 with fail
      go_quiet (fail)
      go_wp2_with fail
      exact ⟨⟨k + 1, by omega, by go_num, below_drewN Hb.out _⟩, by simp [intOf]; omega⟩
    · obtain rfl : k = 2 := by omega
      have x3 := X3.out.bel hb; have x9 := X9.out.bel hb; have x10 := X10.out.bel hb
      replace hB := hB.trans (hb.mono hB.size)
      clear hb
      obtain ⟨q0, q1, q2, q3, q4, q5, q6, q7, q8, q9⟩ := x3.at_.c10
      go_wp2_with fail
      refine (need_soil s _).mono ?_
      rintro e w15 ⟨rfl, hb⟩
      replace x3 := x3.bel hb
      replace x9 := x9.bel hb
      replace x10 := x10.bel hb
      replace hB := hB.trans (hb.mono hB.size)
      clear hb q0 q1 q2 q3 q4 q5 q6 q7 q8 q9
      obtain ⟨q0, q1, q2, q3, q4, q5, q6, q7, q8, q9⟩ := x9.at_.c10
      go_wp2_with fail
      refine (need_soil sa _).mono ?_
      rintro e w16 ⟨rfl, hb⟩
      replace x3 := x3.bel hb
      replace x9 := x9.bel hb
      replace x10 := x10.bel hb
      replace hB := hB.trans (hb.mono hB.size)
      clear hb q0 q1 q2 q3 q4 q5 q6 q7 q8 q9
      obtain ⟨q0, q1, q2, q3, q4, q5, q6, q7, q8, q9⟩ := x10.at_.c10
      go_wp2_with fail
      refine (need_soil wh _).mono ?_
      rintro e w17 ⟨rfl, hb⟩
      replace x3 := x3.bel hb
      replace x9 := x9.bel hb
      replace x10 := x10.bel hb
      replace hB := hB.trans (hb.mono hB.size)
      clear hb q0 q1 q2 q3 q4 q5 q6 q7 q8 q9
      have nw := M.out.nw
      have ns := M.out.ns
      obtain ⟨n, hn⟩ : ∃ n, n = (needF s).1 := ⟨_, rfl⟩
      obtain ⟨j, hj⟩ : ∃ j, j = (needF s).2 := ⟨_, rfl⟩
      obtain ⟨m, hm⟩ : ∃ m, m = (needF sa).1 := ⟨_, rfl⟩
      obtain ⟨l, hl⟩ : ∃ l, l = (needF sa).2 := ⟨_, rfl⟩
      obtain ⟨u, hu⟩ : ∃ u, u = (needF wh).1 := ⟨_, rfl⟩
      obtain ⟨v, hv⟩ : ∃ v, v = (needF wh).2 := ⟨_, rfl⟩
      rw [← hn, ← hj, ← hu, ← hv] at nw
      rw [← hn, ← hj, ← hm, ← hl] at ns
      rw [← hn, ← hj, ← hm, ← hl, ← hu, ← hv]
      clear hn hj hm hl hu hv x3 x9 x10
      by_cases hj0 : j = 0
      · obtain ⟨h1, h2⟩ := nw hj0
        subst hj0 h1
        have t1 : ¬ n < u := by omega
        by_cases hl0 : l = 0
        · have h3 := (ns hl0).2
          subst hl0
          have t2 : ¬ m < n := by omega
          clear ns nw
          go_wp2_with fail
          go_ret
          exact ⟨rfl, hB⟩
        · have t3 : (l == 0) = false := by simpa using hl0
          have Hl := hide hl0
          clear ns nw hl0
          go_wp2_with fail
          go_ret
          exact ⟨rfl, hB⟩
      · have hl0 : ¬ l = 0 := fun h => hj0 (ns h).1
        have t3 : (l == 0) = false := by simpa using hl0
        have t4 : (j == 0) = false := by simpa using hj0
        clear ns nw hl0 hj0
        go_wp2_with fail
        go_ret
        exact ⟨rfl, hB⟩
set_option maxRecDepth 100000 in
theorem saltMore_lifted (os : Os) (started : os.Started) (H : Type) (enc : TypeId × Value → H) :
    ReturnsInHanded {} Try.checked os 8 .any (Rows.saltMoreSpec.pre6 enc Try.prog Try.f8 Rows.saltMoreRow.domain false) (Rows.saltMoreSpec.post enc Try.prog Try.f8 false true false false) := by
  refine law_lifted os started H enc (s := Rows.saltMoreSpec) Try.func8 (by kernel_rfl) ?_ rfl Try.underlying4 rfl (of_decide_eq_true (by kernel_rfl))
    (ChangeSpec.witness6 (enc := enc) (C := Try.checked) false ⟨#[], #[.agg #[.int .i64 0, .int .i64 0, .int .i64 0, .int .i64 0, .int .i64 0, .int .i64 0, .int .i64 0, .int .i64 0, .int .i64 0, .int .i64 0], .agg #[.int .i64 0, .int .i64 0], .slice none 0 0], []⟩ 8 (by kernel_rfl) (by kernel_rfl) (by kernel_rfl) (by kernel_rfl)) ?_
  · intro ds hds
    match ds, hds with
    | [a, b, c], _ => rfl
  · intro W base args ds ps hval hA hlt
    rw [Try.params8] at hA hval
    obtain ⟨v0, v1, v2, d0, d1, d2, p0, p1, p2, rfl, rfl, rfl, h0, h1, h2⟩ := trodAll_three hA
    obtain ⟨s, rfl, _⟩ := open_val shape_so Try.underlying25 (hval 0 _ v0 rfl rfl) h0
    obtain ⟨wa, rfl, _⟩ := open_val shape_sp Try.underlying23 (hval 1 _ v1 rfl rfl) h1
    obtain ⟨B, nb, cb, bys, rfl, hnb, hnb2, hby, h32⟩ := open_sl shape_u32 Try.underlying68 cells_u32 u32cell_len (by omega) (hval 2 _ v2 rfl rfl) h2
    exact smore_walk s wa B bys nb cb W hnb hnb2 hby h32

theorem saltMore_holds : Rows.SaltMoreSaid :=
  OpenClaim.holds_of_wide 8 Try.f8 rfl rfl rfl rfl rfl rfl rfl ⟨rfl, rfl, rfl, rfl, rfl⟩ rfl rfl rfl rfl rfl (by kernel_rfl) Try.func8 (by kernel_rfl)
    (of_decide_eq_true (by kernel_rfl)) (by unfold Func.isWrapper; rw [if_neg (of_decide_eq_false (by kernel_rfl))]; exact ⟨rfl, rfl⟩)
    (fun os started H enc _ => saltMore_lifted os started H enc)
#print axioms saltMore_holds
end Go.Proofs.Ytmbhnjpaieimbaa
