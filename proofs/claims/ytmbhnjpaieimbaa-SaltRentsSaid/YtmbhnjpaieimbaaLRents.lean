/- SaltRents: with a rent more a plan costs no more; with greater needs no less; and dearer minutes cost no less. The law returns true for all needs and rents, a rent more, and how much. No conditions. -/
import Derived.Test.YtmbhnjpaieimbaaPD2
import Derived.Test.YtmbhnjpaieimbaaPBH
import Derived.Test.YtmbhnjpaieimbaaPE1
import Derived.Test.YtmbhnjpaieimbaaPE2
import Derived.Test.YtmbhnjpaieimbaaPE3
import Derived.Test.YtmbhnjpaieimbaaSA2
import Derived.Deep.Cut
set_option linter.unusedVariables false
set_option linter.unusedSimpArgs false
namespace Go.Proofs.Ytmbhnjpaieimbaa
open Go.RowKit Go.Shelf Go.WideShapes Go.ChangeShapes Go.ChangeAt
set_option maxHeartbeats 40000000 in
set_option maxRecDepth 100000 in
theorem srents_walk (A1 A2 A : Option Addr) (m c1 r c2 nb cb : Nat) (ns : List Int) (rs : List Rr) (q : Rr) (bys : List Nat) (w : World) (hN : Rd w w.heap.size icell A1 ns) (hm : m = ns.length) (hm2 : m ≤ 9223372036854775807) (hR : RsAt0 w A2 r rs) (hr2 : r ≤ 9223372036854775807) (hr40 : r * 40 ≤ 140737488351232) (hrz : ∀ x ∈ rs, x.n * 8 ≤ 140737488351232)
    (hq : q.n = q.fs.length ∧ q.n ≤ 9223372036854775807 ∧ Rd w w.heap.size icell q.A q.fs) (hnb : nb = bys.length) (hnb2 : nb ≤ 9223372036854775807) (hby : Rd w w.heap.size u32cell A bys) (h32 : ∀ x ∈ bys, x ≤ 4294967295) :
    Calls Try.prog 11 #[.slice A1 m c1, .slice A2 r c2, .agg #[.int .i64 q.mi, .int .i64 q.pr, .slice q.A q.n q.c], .slice A nb cb] w fun e w' => e = .returned (.bool true) ∧ Below w.heap.size w w' := by
  obtain ⟨b6, w1, e6, ew1, hx6, hb1, hz1⟩ := mk_bx w #[.int .i64 q.mi, .int .i64 q.pr, .slice q.A q.n q.c] 89
  have Hm := hide hm; have Hnb := hide hnb; have H32 := hide h32
  have Hrz : Hid (∀ x ∈ rs, x.n * 8 ≤ 140737488355328) := hide fun x hx => by have := hrz x hx; omega
  have HN := hide hN; have HR0 := hide hR; have HBy := hide hby; have HQ := hide hq
  have hB1 := hb1
  clear hm hnb h32 hrz hN hR hby hq hb1 hz1
  go_enter Try.func11, Try.ntmps11
  go_wp2_with fail
  rw [ew1.out, e6.out]
  refine (salive_any _).mono ?_
  rintro e w3 ⟨rfl, hb3⟩
  replace hB1 := hB1.trans (hb3.mono hB1.size)
  replace hx6 := hx6.bel hb3
  have Hq : Hid (q.n = q.fs.length ∧ q.n ≤ 9223372036854775807 ∧ Rd w3 w3.heap.size icell q.A q.fs) := hide ⟨HQ.out.1, HQ.out.2.1, HQ.out.2.2.bel hB1⟩
  have rR := HR0.out.bel hB1
  have HB3 := hide hB1
  clear hb3 hB1
  go_wp2_with fail
  refine wp_region_held_drew (S := (fun W => Below w3.heap.size w3 W)) (by kernel_rfl) (by (try dsimp only); exact (Below.refl _ _).drew) (fun hHeld => ?_)
  generalize World.drew w3 = Wd4 at hHeld ⊢
  have rR := rR.bel hHeld
  have hbc := Below.refl Wd4.heap.size Wd4
  refine wpAnyH_take (i := 0) (oi := ⟨_, _, _, _, _, _⟩) (v := ?_) rfl (by kernel_rfl) (by kernel_rfl) (by kernel_rfl) (fun _ _ _ h => h) (Or.inl ⟨by rfl, ?_⟩) hHeld ?_
  rotate_left
  · (intro w hSw; (try dsimp only at hSw); go_simp; try (with_reducible rfl))
  try simp only [Act.put, List.setIfInBounds_toArray, List.set_cons_zero, List.set_cons_succ]
  refine wpAnyH_take (i := 2) (oi := ⟨_, _, _, _, _, _⟩) (v := ?_) rfl (by kernel_rfl) (by kernel_rfl) (by kernel_rfl) (fun _ _ _ h => h) (Or.inl ⟨by rfl, ?_⟩) hHeld ?_
  rotate_left
  · (intro w hSw; (try dsimp only at hSw); obtain ⟨y0, y1, y2⟩ := (hx6.bel hSw).at_.c3; go_simp; try (with_reducible rfl))
  try simp only [Act.put, List.setIfInBounds_toArray, List.set_cons_zero, List.set_cons_succ]
  refine cut4 (C := fun (At : Option Addr) (ct : Nat) (rt : List Rr) (b33 : Nat) (Wc4_1 : World) => (RsOwn Wc4_1 w3.heap.size At r ct rt) ∧ (Rd Wc4_1 Wc4_1.heap.size Rr.cells (some ⟨b33, 0, none⟩) [q]) ∧ (strips rt = strips rs) ∧ Below Wd4.heap.size Wd4 Wc4_1 ∧ Below w3.heap.size w3 Wc4_1) (G := ?_) ?_ ?_
  rotate_left
  · intro hCut
    replace hbc := Below.refl Wd4.heap.size Wd4
    refine wpAnyH_ready (rs := [1, 3]) (by kernel_rfl) (by simp) ?_
    refine AllReadyH.cons (o := ⟨_, _, _, _, _, _⟩) rfl (fun K hK => ?_) ?_
    ·
      go_simp
      refine (rtwin_own A2 r c2 rs _ rR (by omega) Hrz.out).mono ?_
      rintro e V31 ⟨At, ct, rt, rfl, ot, hst, hb⟩
      replace ot := ot.mono hHeld.size
      go_wp2_with fail
      have hHeldN := hHeld.trans (hb.mono hHeld.size)
      have rR := rR.bel hb
      have hbc := hbc.trans (hb.mono hbc.size)
      refine hK.out _ _ ?_ (fun hHeld2 => ?_)
      · exact hHeldN
      clear hK K hHeldN hb; have hHeld := hHeld2; clear hHeld2
      try simp only [Act.put, List.setIfInBounds_toArray, List.set_cons_zero, List.set_cons_succ]
      refine wpAnyH_ready (rs := [3]) (by kernel_rfl) (by simp) ?_
      refine AllReadyH.cons (o := ⟨_, _, _, _, _, _⟩) rfl (fun K hK => ?_) AllReadyH.nil
      go_simp
      obtain ⟨b33, V33, eb33, ev33, r33, hb⟩ := mk_row (cells := Rr.cells) V31 #[.int .i64 q.mi, .int .i64 q.pr, .slice q.A q.n q.c] 89 [q] rfl
      rw [ev33.out, eb33.out]
      have hHeldN := hHeld.trans (hb.mono hHeld.size)
      have rR := rR.bel hb
      have ot := ot.bel hb
      have hbc := hbc.trans (hb.mono hbc.size)
      refine hK.out _ _ ?_ (fun hHeld2 => ?_)
      · exact hHeldN
      clear hK K hHeldN hb; have hHeld := hHeld2; clear hHeld2
      try simp only [Act.put, List.setIfInBounds_toArray, List.set_cons_zero, List.set_cons_succ]
      exact hCut At ct rt b33 V33 ⟨ot, r33, hst, hbc, hHeld⟩
    refine AllReadyH.cons (o := ⟨_, _, _, _, _, _⟩) rfl (fun K hK => ?_) AllReadyH.nil
    go_simp
    obtain ⟨b33, V33, eb33, ev33, r33, hb⟩ := mk_row (cells := Rr.cells) Wd4 #[.int .i64 q.mi, .int .i64 q.pr, .slice q.A q.n q.c] 89 [q] rfl
    rw [ev33.out, eb33.out]
    have hHeldN := hHeld.trans (hb.mono hHeld.size)
    have rR := rR.bel hb
    have hbc := hbc.trans (hb.mono hbc.size)
    refine hK.out _ _ ?_ (fun hHeld2 => ?_)
    · exact hHeldN
    clear hK K hHeldN hb; have hHeld := hHeld2; clear hHeld2
    try simp only [Act.put, List.setIfInBounds_toArray, List.set_cons_zero, List.set_cons_succ]
    refine wpAnyH_ready (rs := [1]) (by kernel_rfl) (by simp) ?_
    refine AllReadyH.cons (o := ⟨_, _, _, _, _, _⟩) rfl (fun K hK => ?_) AllReadyH.nil
    go_simp
    refine (rtwin_own A2 r c2 rs _ rR (by omega) Hrz.out).mono ?_
    rintro e V31 ⟨At, ct, rt, rfl, ot, hst, hb⟩
    replace ot := ot.mono hHeld.size
    go_wp2_with fail
    have hHeldN := hHeld.trans (hb.mono hHeld.size)
    have rR := rR.bel hb
    have r33 := r33.bel hb
    have hbc := hbc.trans (hb.mono hbc.size)
    refine hK.out _ _ ?_ (fun hHeld2 => ?_)
    · exact hHeldN
    clear hK K hHeldN hb; have hHeld := hHeld2; clear hHeld2
    try simp only [Act.put, List.setIfInBounds_toArray, List.set_cons_zero, List.set_cons_succ]
    exact hCut At ct rt b33 V31 ⟨ot, r33, hst, hbc, hHeld⟩
  intro At ct rt b33 Wc4_1 ⟨ot, r33, hst, hbN, hHeldN⟩
  have rR := rR.bel hbN
  have hbc := hbc.trans (hbN.mono hbc.size); clear hHeld hbN; have hHeld := hHeldN; clear hHeldN
  refine wpAnyH_ready (rs := [4]) (by kernel_rfl) (by simp) ?_
  refine AllReadyH.cons (o := ⟨_, _, _, _, _, _⟩) rfl (fun K hK => ?_) AllReadyH.nil
  refine op_appB (v := .slice At r ct) (xs := rt) (ys := [q]) (n := 1) el_rent (.tmp 31) (.tmp 33) rfl rfl ot.own rfl rfl r33 (by decide) (by have := ot.at_.en; omega) hHeld.size ?_
  intro v34 V34 o34 hg hat
  obtain ⟨⟨A34, c34, rfl, a34⟩, hab⟩ := ot.app (Below.refl _ _) hg o34 hHeld.size ⟨Hq.out.1, Hq.out.2.1, Hq.out.2.2.below hHeld⟩
  have hHeldN := hHeld.trans hab
  refine hK.out _ _ ?_ (fun hHeld2 => ?_)
  · exact hHeldN
  clear hK K hHeld hHeldN hbc; have hHeld := hHeld2; clear hHeld2
  have hbc := Below.refl V34.heap.size V34
  try simp only [Act.put, List.setIfInBounds_toArray, List.set_cons_zero, List.set_cons_succ]
  refine wpAnyH_take (i := 5) (oi := ⟨_, _, _, _, _, _⟩) (v := ?_) rfl (by kernel_rfl) (by kernel_rfl) (by kernel_rfl) (fun _ _ _ h => h) (Or.inl ⟨by rfl, ?_⟩) hHeld ?_
  rotate_left
  · (intro w hSw; (try dsimp only at hSw); go_simp; try (with_reducible rfl))
  try simp only [Act.put, List.setIfInBounds_toArray, List.set_cons_zero, List.set_cons_succ]
  refine wpAnyH_done (by kernel_rfl) ?_ _
  have HB4 := hide (HB3.out.trans (hHeld.mono HB3.out.size))
  obtain ⟨w4, rfl⟩ : ∃ w4, w4 = V34 := ⟨V34, rfl⟩
  have HA := hide a34; have Hst := hide hst
  clear hHeld hbc a34 rR hst
  go_wp2_with fail
  refine (sready_any A1 A2 m c1 r c2 ns rs w4 (HN.out.bel HB4.out) Hm.out hm2 (HR0.out.bel HB4.out) hr2).mono ?_
  rintro e w5 ⟨rfl, hb5⟩
  have HB5 := hide (HB4.out.trans (hb5.mono HB4.out.size)); have H45 := hide hb5
  clear hb5
  cases hrd : (!greatF ns rs && rentsOk ns rs)
  · clear hrd
    go_wp2_with fail
    go_ret
    exact ⟨rfl, HB5.out⟩
  rw [Bool.and_eq_true, Bool.not_eq_true'] at hrd
  have HR := hide (HR0.out.small (ns := ns) hrd.1).1
  have Hro := hide (RentsOk.of hrd.2)
  have hm8 : m ≤ 8 := by rw [Hm.out]; exact Hro.out.nl
  have hr8 : r ≤ 8 := by rw [HR.out.en]; exact Hro.out.rl
  clear hrd
  go_wp2_with fail
  refine (sready_any A1 A34 m c1 (r + 1) c34 ns (rt ++ [q]) w5 (HN.out.bel HB5.out) Hm.out hm2 (HA.out.bel H45.out) (by omega)).mono ?_
  rintro e w6 ⟨rfl, hb6⟩
  have HB6 := hide (HB5.out.trans (hb6.mono HB5.out.size)); have H46 := hide (H45.out.trans (hb6.mono H45.out.size))
  clear hb6
  cases hrd : (!greatF ns (rt ++ [q]) && rentsOk ns (rt ++ [q]))
  · clear hrd
    go_wp2_with fail
    go_ret
    exact ⟨rfl, HB6.out⟩
  rw [Bool.and_eq_true, Bool.not_eq_true'] at hrd
  have HAl := hide (HA.out.small (ns := ns) hrd.1).1
  have Hroa := hide (RentsOk.of (ns := ns) (rs := rs ++ [q]) (by rw [← rentsOk_twin (strips_app Hst.out q) ns]; exact hrd.2))
  have Hpt := hide (planF_twin (strips_app Hst.out q) ns)
  clear hrd
  obtain ⟨eE, hE⟩ : ∃ x, x = (planF ns rs).2.2 := ⟨_, rfl⟩
  obtain ⟨eC, hC⟩ : ∃ x, x = (planF ns rs).2.1 := ⟨_, rfl⟩
  obtain ⟨fE, hF⟩ : ∃ x, x = (planF ns (rt ++ [q])).2.2 := ⟨_, rfl⟩
  obtain ⟨fC, hFC⟩ : ∃ x, x = (planF ns (rt ++ [q])).2.1 := ⟨_, rfl⟩
  have F1 : eE = 0 ∨ eE = 63 := by rw [hE]; rcases plan_ok_iff Hro.out with h | h <;> simp [h.1]
  have F2 : fE = 0 ∨ fE = 63 := by rw [hF, Hpt.out]; rcases plan_ok_iff Hroa.out with h | h <;> simp [h.1]
  have F3 : Hid (eE = 0 → fE = 0 ∧ fC ≤ eC) := hide fun h => by
    rw [hF, hFC, hC, Hpt.out]
    exact plan_easier Hroa.out Hro.out (easier_more Hroa.out) (by rw [← hE]; exact h)
  have HE := hide hE; have HC := hide hC; have HF := hide hF; have HFC := hide hFC
  clear hE hC hF hFC
  go_wp2_with fail
  refine (plan_any A1 A2 m c1 r c2 ns rs w6 (HN.out.bel HB6.out) Hm.out hm2 (HR.out.bel HB6.out) hr2).mono ?_
  rintro e w7 ⟨vA, rfl, _, hb7⟩
  rw [← HE.out, ← HC.out]
  have HB7 := hide (HB6.out.trans (hb7.mono HB6.out.size)); have H47 := hide (H46.out.trans (hb7.mono H46.out.size))
  clear hb7
  go_wp2_with fail
  refine (plan_any A1 A34 m c1 (r + 1) c34 ns (rt ++ [q]) w7 (HN.out.bel HB7.out) Hm.out hm2 (HAl.out.bel H47.out) (by omega)).mono ?_
  rintro e w8 ⟨vB, rfl, _, hb8⟩
  rw [← HF.out, ← HFC.out]
  have HB8 := hide (HB7.out.trans (hb8.mono HB7.out.size))
  clear hb8 HF HFC
  have F4 : Hid (eE = 0 ∨ eE = 63) := hide F1
  by_cases hz : m = 0 ∨ r = 0
  · have t0 : ((m : Int) == 0) = true ∨ ((r : Int) == 0) = true := by rcases hz with h | h <;> simp [h]
    rcases F1 with h0 | h0
    · obtain ⟨g1, g2⟩ := F3.out h0
      have d1 : decide (eC < fC) = false := decide_eq_false (by omega)
      subst h0 g1
      clear F2 g2
      cases t1 : ((m : Int) == 0)
      · rw [t1] at t0
        have t2 : ((r : Int) == 0) = true := by simpa using t0
        clear t0 hz
        go_wp2_with fail
        go_ret
        exact ⟨rfl, HB8.out⟩
      · clear t0 hz
        go_wp2_with fail
        go_ret
        exact ⟨rfl, HB8.out⟩
    · subst h0
      cases t1 : ((m : Int) == 0)
      · rw [t1] at t0
        have t2 : ((r : Int) == 0) = true := by simpa using t0
        clear t0 hz
        go_wp2_with fail
        go_ret
        exact ⟨rfl, HB8.out⟩
      · clear t0 hz
        go_wp2_with fail
        go_ret
        exact ⟨rfl, HB8.out⟩
  have m1 : 1 ≤ m := by omega
  have r1 : 1 ≤ r := by omega
  have t1 : ((m : Int) == 0) = false := by simp; omega
  have t2 : ((r : Int) == 0) = false := by simp; omega
  have nz1 : ¬ m = 0 := by omega
  have nz2 : ¬ r = 0 := by omega
  clear hz
  rcases F1 with h0 | h0
  · obtain ⟨g1, g2⟩ := F3.out h0
    have d1 : decide (eC < fC) = false := decide_eq_false (by omega)
    subst h0 g1
    clear F2 g2
    go_wp2_with fail
    have rby := HBy.out.bel HB8.out
    refine wp_region_held_drew (S := (fun W => Below w8.heap.size w8 W)) (by kernel_rfl) (by (try dsimp only); exact (Below.refl _ _).drew) (fun hHeld => ?_)
    generalize World.drew w8 = Wd13 at hHeld ⊢
    have rby := rby.bel hHeld
    have hbc := Below.refl Wd13.heap.size Wd13
    refine wpAnyH_take (i := 0) (oi := ⟨_, _, _, _, _, _⟩) (v := ?_) rfl (by kernel_rfl) (by kernel_rfl) (by kernel_rfl) (fun _ _ _ h => h) (Or.inl ⟨by rfl, ?_⟩) hHeld ?_
    rotate_left
    · (intro w hSw; (try dsimp only at hSw); go_simp; try (with_reducible rfl))
    try simp only [Act.put, List.setIfInBounds_toArray, List.set_cons_zero, List.set_cons_succ]
    refine wpAnyH_take (i := 3) (oi := ⟨_, _, _, _, _, _⟩) (v := ?_) rfl (by kernel_rfl) (by kernel_rfl) (by kernel_rfl) (fun _ _ _ h => h) (Or.inl ⟨by rfl, ?_⟩) hHeld ?_
    rotate_left
    · (intro w hSw; (try dsimp only at hSw); go_simp; try (with_reducible rfl))
    try simp only [Act.put, List.setIfInBounds_toArray, List.set_cons_zero, List.set_cons_succ]
    refine wpAnyH_take (i := 4) (oi := ⟨_, _, _, _, _, _⟩) (v := ?_) rfl (by kernel_rfl) (by kernel_rfl) (by kernel_rfl) (fun _ _ _ h => h) (Or.inl ⟨by rfl, ?_⟩) hHeld ?_
    rotate_left
    · (intro w hSw; (try dsimp only at hSw); go_simp; try (with_reducible rfl))
    try simp only [Act.put, List.setIfInBounds_toArray, List.set_cons_zero, List.set_cons_succ]
    refine wpAnyH_take (i := 6) (oi := ⟨_, _, _, _, _, _⟩) (v := ?_) rfl (by kernel_rfl) (by kernel_rfl) (by kernel_rfl) (fun _ _ _ h => h) (Or.inl ⟨by rfl, ?_⟩) hHeld ?_
    rotate_left
    · (intro w hSw; (try dsimp only at hSw); go_simp; try (with_reducible rfl))
    try simp only [Act.put, List.setIfInBounds_toArray, List.set_cons_zero, List.set_cons_succ]
    refine wpAnyH_take (i := 9) (oi := ⟨_, _, _, _, _, _⟩) (v := ?_) rfl (by kernel_rfl) (by kernel_rfl) (by kernel_rfl) (fun _ _ _ h => h) (Or.inl ⟨by rfl, ?_⟩) hHeld ?_
    rotate_left
    · (intro w hSw; (try dsimp only at hSw); go_simp; try (with_reducible rfl))
    try simp only [Act.put, List.setIfInBounds_toArray, List.set_cons_zero, List.set_cons_succ]
    refine wpAnyH_take (i := 10) (oi := ⟨_, _, _, _, _, _⟩) (v := ?_) rfl (by kernel_rfl) (by kernel_rfl) (by kernel_rfl) (fun _ _ _ h => h) (Or.inl ⟨by rfl, ?_⟩) hHeld ?_
    rotate_left
    · (intro w hSw; (try dsimp only at hSw); go_simp; try (with_reducible rfl))
    try simp only [Act.put, List.setIfInBounds_toArray, List.set_cons_zero, List.set_cons_succ]
    refine wpAnyH_ready (rs := [1]) (by kernel_rfl) (by simp) ?_
    refine AllReadyH.cons (o := ⟨_, _, _, _, _, _⟩) rfl (fun K hK => ?_) AllReadyH.nil
    go_simp
    refine (sat_any A nb cb bys 0 _ Hnb.out H32.out rby hnb2 (by omega) (by omega)).mono ?_
    rintro e V81 ⟨m81, rfl, hm81, hb⟩
    have fm81 : IntKind.i64.wrap (m81 : Int) = (m81 : Int) := wrapI (by omega)
    go_wp2_with fail
    have hHeldN := hHeld.trans (hb.mono hHeld.size)
    have rby := rby.bel hb
    have hbc := hbc.trans (hb.mono hbc.size)
    refine hK.out _ _ ?_ (fun hHeld2 => ?_)
    · exact hHeldN
    clear hK K hHeld hHeldN hb; have hHeld := hHeld2; clear hHeld2
    try simp only [Act.put, List.setIfInBounds_toArray, List.set_cons_zero, List.set_cons_succ]
    refine wpAnyH_take (i := 2) (oi := ⟨_, _, _, _, _, _⟩) (v := ?_) rfl (by kernel_rfl) (by kernel_rfl) (by kernel_rfl) (fun _ _ _ h => h) (Or.inl ⟨by rfl, ?_⟩) hHeld ?_
    rotate_left
    · (intro w hSw; (try dsimp only at hSw); go_simp; try (with_reducible rfl))
    try simp only [Act.put, List.setIfInBounds_toArray, List.set_cons_zero, List.set_cons_succ]
    refine wpAnyH_take (i := 5) (oi := ⟨_, _, _, _, _, _⟩) (v := ?_) rfl (by kernel_rfl) (by kernel_rfl) (by kernel_rfl) (fun _ _ _ h => h) (Or.inl ⟨by rfl, ?_⟩) hHeld ?_
    rotate_left
    · (intro w hSw; (try dsimp only at hSw); go_simp; try (with_reducible rfl))
    try simp only [Act.put, List.setIfInBounds_toArray, List.set_cons_zero, List.set_cons_succ]
    refine wpAnyH_ready (rs := [7]) (by kernel_rfl) (by simp) ?_
    refine AllReadyH.cons (o := ⟨_, _, _, _, _, _⟩) rfl (fun K hK => ?_) AllReadyH.nil
    go_simp
    refine (sat_any A nb cb bys 1 _ Hnb.out H32.out rby hnb2 (by omega) (by omega)).mono ?_
    rintro e V87 ⟨m87, rfl, hm87, hb⟩
    have fm87 : IntKind.i64.wrap (m87 : Int) = (m87 : Int) := wrapI (by omega)
    go_wp2_with fail
    have hHeldN := hHeld.trans (hb.mono hHeld.size)
    have rby := rby.bel hb
    have hbc := hbc.trans (hb.mono hbc.size)
    refine hK.out _ _ ?_ (fun hHeld2 => ?_)
    · exact hHeldN
    clear hK K hHeld hHeldN hb; have hHeld := hHeld2; clear hHeld2
    try simp only [Act.put, List.setIfInBounds_toArray, List.set_cons_zero, List.set_cons_succ]
    refine wpAnyH_take (i := 8) (oi := ⟨_, _, _, _, _, _⟩) (v := ?_) rfl (by kernel_rfl) (by kernel_rfl) (by kernel_rfl) (fun _ _ _ h => h) (Or.inl ⟨by rfl, ?_⟩) hHeld ?_
    rotate_left
    · (intro w hSw; (try dsimp only at hSw); go_simp; try (with_reducible rfl))
    try simp only [Act.put, List.setIfInBounds_toArray, List.set_cons_zero, List.set_cons_succ]
    refine wpAnyH_take (i := 11) (oi := ⟨_, _, _, _, _, _⟩) (v := ?_) rfl (by kernel_rfl) (by kernel_rfl) (by kernel_rfl) (fun _ _ _ h => h) (Or.inl ⟨by rfl, ?_⟩) hHeld ?_
    rotate_left
    · (intro w hSw; (try dsimp only at hSw); go_simp; try (with_reducible rfl))
    try simp only [Act.put, List.setIfInBounds_toArray, List.set_cons_zero, List.set_cons_succ]
    refine wpAnyH_take (i := 12) (oi := ⟨_, _, _, _, _, _⟩) (v := ?_) rfl (by kernel_rfl) (by kernel_rfl) (by kernel_rfl) (fun _ _ _ h => h) (Or.inl ⟨by rfl, ?_⟩) hHeld ?_
    rotate_left
    · (intro w hSw; (try dsimp only at hSw); go_simp; try (with_reducible rfl))
    try simp only [Act.put, List.setIfInBounds_toArray, List.set_cons_zero, List.set_cons_succ]
    refine wpAnyH_take (i := 13) (oi := ⟨_, _, _, _, _, _⟩) (v := ?_) rfl (by kernel_rfl) (by kernel_rfl) (by kernel_rfl) (fun _ _ _ h => h) (Or.inl ⟨by rfl, ?_⟩) hHeld ?_
    rotate_left
    · (intro w hSw; (try dsimp only at hSw); go_simp; try (with_reducible rfl))
    try simp only [Act.put, List.setIfInBounds_toArray, List.set_cons_zero, List.set_cons_succ]
    refine wpAnyH_done (by kernel_rfl) ?_ _
    have HB9 := hide (HB8.out.trans (hHeld.mono HB8.out.size))
    obtain ⟨w9, rfl⟩ : ∃ w9, w9 = V87 := ⟨V87, rfl⟩
    obtain ⟨k, hk, hkm⟩ : ∃ k : Nat, Int.tmod (m81 : Int) (m : Int) = (k : Int) ∧ k < m := ⟨m81 % m, by rw [Int.tmod_eq_emod_of_nonneg (by omega)]; exact (Int.natCast_emod _ _).symm, Nat.mod_lt _ (by omega)⟩
    obtain ⟨i, hi, hir⟩ : ∃ i : Nat, Int.tmod (m87 : Int) (r : Int) = (i : Int) ∧ i < r := ⟨m87 % r, by rw [Int.tmod_eq_emod_of_nonneg (by omega)]; exact (Int.natCast_emod _ _).symm, Nat.mod_lt _ (by omega)⟩
    rw [hk, hi]
    clear hk hi hHeld hbc rby fm81 fm87
    have L92 := hide (lit0 (cells := icell) w9 3 1 w9.heap.size (fun _ => rfl) (Nat.le_refl _))
    have hb92 := hide (below_new w9 (.cells #[] 3))
    have R92 := hide ((HN.out.bel HB9.out).bel hb92.out)
    go_wp2_with (at_builtin; refine wpList_fresh el_int rfl (.tmp 92) (.tmp 93) rfl rfl L92.out Hm.out.symm rfl R92.out (by omega) hb92.out.size ?_; intro v wa o1 k1 hat1; have O1 := hide o1; have K1 := hide k1; clear o1 k1 hat1)
    obtain ⟨A19, c19, rfl, _⟩ := O1.out.rdn m Hm.out.symm
    obtain ⟨gn, rfl⟩ := own_at' O1.out (by omega)
    have H9a := hide (hb92.out.trans (K1.out.mono hb92.out.size))
    have HBa := hide (HB9.out.trans (H9a.out.mono HB9.out.size))
    clear L92 hb92 R92 K1
    refine (rtwin_own A2 r c2 rs wa (HR0.out.bel HBa.out) (by omega) Hrz.out).mono ?_
    rintro e wb ⟨A20, c20, rd, rfl, od, hsd, hbd⟩
    have HBb := hide (HBa.out.trans (hbd.mono HBa.out.size))
    have OD := hide od
    have o1 := O1.out.bel hbd
    have Hsd := hide hsd
    have HGa := hide (O1.out.blockG (g := gn) rfl)
    obtain ⟨gd, rfl⟩ := own_at' od.own (by omega)
    clear od hbd hsd O1
    go_wp2_with fail
    have hkl : k < ns.length := by rw [← Hm.out]; exact hkm
    obtain ⟨b1, off1, nk, hA1, hb1l, hxk, cN⟩ := (HN.out.bel HBb.out).int (i := k) hkl
    have hb1n : b1 ≠ gn := by
      obtain ⟨b1', _, _, hA1', hb1'', _, _⟩ := HN.out.int (i := k) hkl
      rw [hA1] at hA1'
      injection hA1' with e
      injection e with e _ _
      have := HB9.out.size; have := HGa.out.1; omega
    have hgd : ns.getD k 0 = nk := by rw [List.getD_eq_getElem?_getD, hxk]; rfl
    have hnk := Hro.out.n nk (List.mem_of_getElem? hxk)
    have fn1 : IntKind.i64.wrap (23040 - nk) = 23040 - nk := wrapI (by omega)
    have fn2 : IntKind.i64.wrap (23040 - nk + 1) = 23040 - nk + 1 := wrapI (by omega)
    have nz3 : ¬ 23040 - nk + 1 = 0 := by omega
    have ik : (k : Int) < (m : Int) := by omega
    have rby := HBy.out.bel HBb.out
    subst hA1
    clear hxk
    refine wp_region_held_drew (S := (fun W => Kept (fun b => b ≠ gn) wb W)) (by kernel_rfl) (by (try dsimp only); exact Kept.all _ (Below.refl _ _).drew) (fun hHeld => ?_)
    have hdr : Below wb.heap.size wb (World.drew wb) := (Below.refl _ _).drew
    generalize World.drew wb = Wd15 at hHeld hdr ⊢
    have rby := rby.bel hdr
    have o1 := o1.bel hdr
    have hbc := Below.refl Wd15.heap.size Wd15
    refine wpAnyH_take (i := 0) (oi := ⟨_, _, _, _, _, _⟩) (v := ?_) rfl (by kernel_rfl) (by kernel_rfl) (by kernel_rfl) (fun _ _ _ h => h) (Or.inl ⟨by rfl, ?_⟩) hHeld ?_
    rotate_left
    · (intro w hSw; (try dsimp only at hSw); go_simp; try (with_reducible rfl))
    try simp only [Act.put, List.setIfInBounds_toArray, List.set_cons_zero, List.set_cons_succ]
    refine wpAnyH_take (i := 1) (oi := ⟨_, _, _, _, _, _⟩) (v := ?_) rfl (by kernel_rfl) (by kernel_rfl) (by kernel_rfl) (fun _ _ _ h => h) (Or.inl ⟨by rfl, ?_⟩) hHeld ?_
    rotate_left
    · (intro w hSw; (try dsimp only at hSw); go_simp; try (with_reducible rfl))
    try simp only [Act.put, List.setIfInBounds_toArray, List.set_cons_zero, List.set_cons_succ]
    refine wpAnyH_take (i := 2) (oi := ⟨_, _, _, _, _, _⟩) (v := ?_) rfl (by kernel_rfl) (by kernel_rfl) (by kernel_rfl) (fun _ _ _ h => h) (Or.inl ⟨by rfl, ?_⟩) hHeld ?_
    rotate_left
    · (intro w hSw; (try dsimp only at hSw); go_simp; try (with_reducible rfl))
    try simp only [Act.put, List.setIfInBounds_toArray, List.set_cons_zero, List.set_cons_succ]
    refine wpAnyH_take (i := 4) (oi := ⟨_, _, _, _, _, _⟩) (v := ?_) rfl (by kernel_rfl) (by kernel_rfl) (by kernel_rfl) (fun _ _ _ h => h) (Or.inl ⟨by rfl, ?_⟩) hHeld ?_
    rotate_left
    · (intro w hSw; (try dsimp only at hSw); go_simp; try (with_reducible rfl))
    try simp only [Act.put, List.setIfInBounds_toArray, List.set_cons_zero, List.set_cons_succ]
    refine wpAnyH_take (i := 7) (oi := ⟨_, _, _, _, _, _⟩) (v := ?_) rfl (by kernel_rfl) (by kernel_rfl) (by kernel_rfl) (fun _ _ _ h => h) (Or.inl ⟨by rfl, ?_⟩) hHeld ?_
    rotate_left
    · (intro w hSw; (try dsimp only at hSw); go_simp; try (with_reducible rfl))
    try simp only [Act.put, List.setIfInBounds_toArray, List.set_cons_zero, List.set_cons_succ]
    refine wpAnyH_take (i := 8) (oi := ⟨_, _, _, _, _, _⟩) (v := ?_) rfl (by kernel_rfl) (by kernel_rfl) (by kernel_rfl) (fun _ _ _ h => h) (Or.inl ⟨by rfl, ?_⟩) hHeld ?_
    rotate_left
    · (intro w hSw; (try dsimp only at hSw); go_simp; try (with_reducible rfl))
    try simp only [Act.put, List.setIfInBounds_toArray, List.set_cons_zero, List.set_cons_succ]
    refine wpAnyH_take (i := 9) (oi := ⟨_, _, _, _, _, _⟩) (v := ?_) rfl (by kernel_rfl) (by kernel_rfl) (by kernel_rfl) (fun _ _ _ h => h) (Or.inl ⟨by rfl, ?_⟩) hHeld ?_
    rotate_left
    · (intro w hSw; (try dsimp only at hSw); go_simp; try (with_reducible rfl))
    try simp only [Act.put, List.setIfInBounds_toArray, List.set_cons_zero, List.set_cons_succ]
    refine wpAnyH_take (i := 10) (oi := ⟨_, _, _, _, _, _⟩) (v := ?_) rfl (by kernel_rfl) (by kernel_rfl) (by kernel_rfl) (fun _ _ _ h => h) (Or.inl ⟨by rfl, ?_⟩) hHeld ?_
    rotate_left
    · (intro w hSw; (try dsimp only at hSw); have cN := (hSw.cell (p := ⟨b1, off1 + k, none⟩) hb1n hb1l).trans cN; go_simp; try (with_reducible rfl))
    try simp only [Act.put, List.setIfInBounds_toArray, List.set_cons_zero, List.set_cons_succ]
    refine wpAnyH_take (i := 11) (oi := ⟨_, _, _, _, _, _⟩) (v := ?_) rfl (by kernel_rfl) (by kernel_rfl) (by kernel_rfl) (fun _ _ _ h => h) (Or.inl ⟨by rfl, ?_⟩) hHeld ?_
    rotate_left
    · (intro w hSw; (try dsimp only at hSw); go_simp; try (with_reducible rfl))
    try simp only [Act.put, List.setIfInBounds_toArray, List.set_cons_zero, List.set_cons_succ]
    refine wpAnyH_take (i := 12) (oi := ⟨_, _, _, _, _, _⟩) (v := ?_) rfl (by kernel_rfl) (by kernel_rfl) (by kernel_rfl) (fun _ _ _ h => h) (Or.inl ⟨by rfl, ?_⟩) hHeld ?_
    rotate_left
    · (intro w hSw; (try dsimp only at hSw); go_simp; try (with_reducible rfl))
    try simp only [Act.put, List.setIfInBounds_toArray, List.set_cons_zero, List.set_cons_succ]
    refine cut1 (C := fun (m102 : Nat) (Wc15_1 : World) => (m102 ≤ 4294967295) ∧ (IntKind.i64.wrap (m102 : Int) = (m102 : Int)) ∧ (0 ≤ Int.tmod (m102 : Int) (23040 - nk + 1) ∧ Int.tmod (m102 : Int) (23040 - nk + 1) ≤ 23040 - nk) ∧ (IntKind.i64.wrap (nk + Int.tmod (m102 : Int) (23040 - nk + 1)) = nk + Int.tmod (m102 : Int) (23040 - nk + 1)) ∧ Below Wd15.heap.size Wd15 Wc15_1 ∧ Kept (fun b => b ≠ gn) wb Wc15_1) (G := ?_) ?_ ?_
    rotate_left
    · intro hCut
      replace hbc := Below.refl Wd15.heap.size Wd15
      refine wpAnyH_ready (rs := [3, 5]) (by kernel_rfl) (by simp) ?_
      refine AllReadyH.cons (o := ⟨_, _, _, _, _, _⟩) rfl (fun K hK => ?_) ?_
      ·
        obtain ⟨_, z0, _⟩ := o1.put1 hkl Hm.out nk
        rw [hgd] at z0
        go_simp
        clear z0
        have hHeldN := hHeld
        refine hK.out _ _ ?_ (fun hHeld2 => ?_)
        · exact hHeldN
        clear hK K hHeldN; have hHeld := hHeld2; clear hHeld2
        try simp only [Act.put, List.setIfInBounds_toArray, List.set_cons_zero, List.set_cons_succ]
        refine wpAnyH_ready (rs := [5]) (by kernel_rfl) (by simp) ?_
        refine AllReadyH.cons (o := ⟨_, _, _, _, _, _⟩) rfl (fun K hK => ?_) AllReadyH.nil
        go_simp
        refine (sat_any A nb cb bys 2 _ Hnb.out H32.out rby hnb2 (by omega) (by omega)).mono ?_
        rintro e V102 ⟨m102, rfl, hm102, hb⟩
        have fm102 : IntKind.i64.wrap (m102 : Int) = (m102 : Int) := wrapI (by omega)
        have hd102 : 0 ≤ Int.tmod (m102 : Int) (23040 - nk + 1) ∧ Int.tmod (m102 : Int) (23040 - nk + 1) ≤ 23040 - nk := ⟨Int.tmod_nonneg _ (by omega), by rw [Int.tmod_eq_emod_of_nonneg (by omega)]; have := Int.emod_lt_of_pos (m102 : Int) (show 0 < 23040 - nk + 1 by omega); omega⟩
        have fw102 : IntKind.i64.wrap (nk + Int.tmod (m102 : Int) (23040 - nk + 1)) = nk + Int.tmod (m102 : Int) (23040 - nk + 1) := wrapI (by omega)
        go_wp2_with fail
        have hHeldN := hHeld.trans (Kept.all _ hb)
        have rby := rby.bel hb
        have o1 := o1.bel hb
        have hbc := hbc.trans (hb.mono hbc.size)
        refine hK.out _ _ ?_ (fun hHeld2 => ?_)
        · exact hHeldN
        clear hK K hHeldN hb; have hHeld := hHeld2; clear hHeld2
        try simp only [Act.put, List.setIfInBounds_toArray, List.set_cons_zero, List.set_cons_succ]
        refine wpAnyH_take (i := 6) (oi := ⟨_, _, _, _, _, _⟩) (v := ?_) rfl (by kernel_rfl) (by kernel_rfl) (by kernel_rfl) (fun _ _ _ h => h) (Or.inl ⟨by rfl, ?_⟩) hHeld ?_
        rotate_left
        · (intro w hSw; (try dsimp only at hSw); go_simp; try (with_reducible rfl))
        try simp only [Act.put, List.setIfInBounds_toArray, List.set_cons_zero, List.set_cons_succ]
        refine wpAnyH_take (i := 13) (oi := ⟨_, _, _, _, _, _⟩) (v := ?_) rfl (by kernel_rfl) (by kernel_rfl) (by kernel_rfl) (fun _ _ _ h => h) (Or.inl ⟨by rfl, ?_⟩) hHeld ?_
        rotate_left
        · (intro w hSw; (try dsimp only at hSw); go_simp; try (with_reducible rfl))
        try simp only [Act.put, List.setIfInBounds_toArray, List.set_cons_zero, List.set_cons_succ]
        refine wpAnyH_take (i := 14) (oi := ⟨_, _, _, _, _, _⟩) (v := ?_) rfl (by kernel_rfl) (by kernel_rfl) (by kernel_rfl) (fun _ _ _ h => h) (Or.inl ⟨by rfl, ?_⟩) hHeld ?_
        rotate_left
        · (intro w hSw; (try dsimp only at hSw); go_simp; try (with_reducible rfl))
        try simp only [Act.put, List.setIfInBounds_toArray, List.set_cons_zero, List.set_cons_succ]
        refine wpAnyH_take (i := 15) (oi := ⟨_, _, _, _, _, _⟩) (v := ?_) rfl (by kernel_rfl) (by kernel_rfl) (by kernel_rfl) (fun _ _ _ h => h) (Or.inl ⟨by rfl, ?_⟩) hHeld ?_
        rotate_left
        · (intro w hSw; (try dsimp only at hSw); go_simp; try (with_reducible rfl))
        try simp only [Act.put, List.setIfInBounds_toArray, List.set_cons_zero, List.set_cons_succ]
        exact hCut m102 V102 ⟨hm102, fm102, hd102, fw102, hbc, hHeld⟩
      refine AllReadyH.cons (o := ⟨_, _, _, _, _, _⟩) rfl (fun K hK => ?_) AllReadyH.nil
      go_simp
      refine (sat_any A nb cb bys 2 _ Hnb.out H32.out rby hnb2 (by omega) (by omega)).mono ?_
      rintro e V102 ⟨m102, rfl, hm102, hb⟩
      have fm102 : IntKind.i64.wrap (m102 : Int) = (m102 : Int) := wrapI (by omega)
      have hd102 : 0 ≤ Int.tmod (m102 : Int) (23040 - nk + 1) ∧ Int.tmod (m102 : Int) (23040 - nk + 1) ≤ 23040 - nk := ⟨Int.tmod_nonneg _ (by omega), by rw [Int.tmod_eq_emod_of_nonneg (by omega)]; have := Int.emod_lt_of_pos (m102 : Int) (show 0 < 23040 - nk + 1 by omega); omega⟩
      have fw102 : IntKind.i64.wrap (nk + Int.tmod (m102 : Int) (23040 - nk + 1)) = nk + Int.tmod (m102 : Int) (23040 - nk + 1) := wrapI (by omega)
      go_wp2_with fail
      have hHeldN := hHeld.trans (Kept.all _ hb)
      have rby := rby.bel hb
      have o1 := o1.bel hb
      have hbc := hbc.trans (hb.mono hbc.size)
      refine hK.out _ _ ?_ (fun hHeld2 => ?_)
      · exact hHeldN
      clear hK K hHeldN hb; have hHeld := hHeld2; clear hHeld2
      try simp only [Act.put, List.setIfInBounds_toArray, List.set_cons_zero, List.set_cons_succ]
      refine wpAnyH_take (i := 6) (oi := ⟨_, _, _, _, _, _⟩) (v := ?_) rfl (by kernel_rfl) (by kernel_rfl) (by kernel_rfl) (fun _ _ _ h => h) (Or.inl ⟨by rfl, ?_⟩) hHeld ?_
      rotate_left
      · (intro w hSw; (try dsimp only at hSw); go_simp; try (with_reducible rfl))
      try simp only [Act.put, List.setIfInBounds_toArray, List.set_cons_zero, List.set_cons_succ]
      refine wpAnyH_take (i := 13) (oi := ⟨_, _, _, _, _, _⟩) (v := ?_) rfl (by kernel_rfl) (by kernel_rfl) (by kernel_rfl) (fun _ _ _ h => h) (Or.inl ⟨by rfl, ?_⟩) hHeld ?_
      rotate_left
      · (intro w hSw; (try dsimp only at hSw); go_simp; try (with_reducible rfl))
      try simp only [Act.put, List.setIfInBounds_toArray, List.set_cons_zero, List.set_cons_succ]
      refine wpAnyH_ready (rs := [3]) (by kernel_rfl) (by simp) ?_
      refine AllReadyH.cons (o := ⟨_, _, _, _, _, _⟩) rfl (fun K hK => ?_) AllReadyH.nil
      obtain ⟨_, z0, _⟩ := o1.put1 hkl Hm.out nk
      rw [hgd] at z0
      go_simp
      clear z0
      have hHeldN := hHeld
      refine hK.out _ _ ?_ (fun hHeld2 => ?_)
      · exact hHeldN
      clear hK K hHeldN; have hHeld := hHeld2; clear hHeld2
      try simp only [Act.put, List.setIfInBounds_toArray, List.set_cons_zero, List.set_cons_succ]
      refine wpAnyH_take (i := 14) (oi := ⟨_, _, _, _, _, _⟩) (v := ?_) rfl (by kernel_rfl) (by kernel_rfl) (by kernel_rfl) (fun _ _ _ h => h) (Or.inl ⟨by rfl, ?_⟩) hHeld ?_
      rotate_left
      · (intro w hSw; (try dsimp only at hSw); go_simp; try (with_reducible rfl))
      try simp only [Act.put, List.setIfInBounds_toArray, List.set_cons_zero, List.set_cons_succ]
      refine wpAnyH_take (i := 15) (oi := ⟨_, _, _, _, _, _⟩) (v := ?_) rfl (by kernel_rfl) (by kernel_rfl) (by kernel_rfl) (fun _ _ _ h => h) (Or.inl ⟨by rfl, ?_⟩) hHeld ?_
      rotate_left
      · (intro w hSw; (try dsimp only at hSw); go_simp; try (with_reducible rfl))
      try simp only [Act.put, List.setIfInBounds_toArray, List.set_cons_zero, List.set_cons_succ]
      exact hCut m102 V102 ⟨hm102, fm102, hd102, fw102, hbc, hHeld⟩
    intro m102 Wc15_1 ⟨hm102, fm102, hd102, fw102, hbN, hHeldN⟩
    have rby := rby.bel hbN
    have o1 := o1.bel hbN
    have hbc := hbc.trans (hbN.mono hbc.size); clear hHeld hbN; have hHeld := hHeldN; clear hHeldN
    refine wpAnyH_ready (rs := [16]) (by kernel_rfl) (by simp) ?_
    refine AllReadyH.cons (o := ⟨_, _, _, _, _, _⟩) rfl (fun K hK => ?_) AllReadyH.nil
    obtain ⟨hset, z0, f0⟩ := o1.put1 hkl Hm.out (nk + Int.tmod (m102 : Int) (23040 - nk + 1))
    have hHeldF := hHeld
    go_simp
    clear z0 f0
    refine hK.out _ _ ?_ (fun _ => ?_)
    · (try dsimp only); exact hHeld.trans (Kept.setCell _ ⟨gn, k, none⟩ _)
    clear hK K hHeld
    try simp only [Act.put, List.setIfInBounds_toArray, List.set_cons_zero, List.set_cons_succ]
    refine wpAnyH_done (by kernel_rfl) ?_ _
    obtain ⟨dk, hdk⟩ : ∃ dk, dk = Int.tmod (m102 : Int) (23040 - nk + 1) := ⟨_, rfl⟩
    rw [← hdk] at hset hd102 ⊢
    obtain ⟨wc, hwc⟩ : ∃ wc, Hid (Wc15_1.setCell ⟨gn, k, none⟩ (.int .i64 (nk + dk)) = wc) := ⟨_, hide rfl⟩
    have kc := hHeldF.trans (Kept.setCell Wc15_1 ⟨gn, k, none⟩ (.int .i64 (nk + dk)))
    rw [hwc.out] at hset kc ⊢
    have HKC := hide kc
    have HSc := hide hset
    have Hdk := hide (show 0 ≤ dk ∧ dk ≤ 23040 - nk from hd102)
    have HBc := hide (HBb.out.trans (kc.below (B := w.heap.size) (fun b hb => by have := HB9.out.size; have := HGa.out.1; show b ≠ gn; omega) HBb.out.size))
    have od := OD.out.keptR kc (fun b hb => by have := HGa.out.2; show b ≠ gn; omega)
    clear hset kc hHeldF fw102 fm102 hdk hd102 o1 fn1 fn2 nz3 cN hb1l hb1n hbc
    have hrl : i < rs.length := by have := HR.out.en; omega
    obtain ⟨b2, off2, x, hA2, hb2l, hrx, _, cP, _⟩ := (HR0.out.bel HBc.out).rd.rr (i := i) hrl
    have hb2n : b2 ≠ gd := by
      obtain ⟨b2', _, _, hA2', hb2'', _, _, _, _⟩ := HR0.out.rd.rr (i := i) hrl
      rw [hA2] at hA2'
      injection hA2' with e
      injection e with e _ _
      have := HBa.out.size; have := (od.own.blockG (g := gd) rfl).1; omega
    obtain ⟨y, hry⟩ : ∃ y, rd[i]? = some y := ⟨_, List.getElem?_eq_getElem (by have := od.at_.en; omega)⟩
    obtain ⟨x', hx', _, hyp, _, _⟩ := strips_at Hsd.out hry
    obtain rfl : x = x' := by rw [hrx] at hx'; exact Option.some.inj hx'
    obtain ⟨pq, hpq⟩ : ∃ pq, pq = x.pr := ⟨_, rfl⟩
    rw [← hpq] at cP
    have Hpq := hide (show y.pr = pq by rw [hpq]; exact hyp)
    have Hpx := hide hpq
    have hp := Hro.out.p x.pr (List.mem_map.2 ⟨x, List.mem_of_getElem? hrx, rfl⟩)
    rw [← hpq] at hp
    have Hry := hide hry; have Hrx := hide hrx
    have fn1 : IntKind.i64.wrap (100000 - pq) = 100000 - pq := wrapI (by omega)
    have fn2 : IntKind.i64.wrap (100000 - pq + 1) = 100000 - pq + 1 := wrapI (by omega)
    have nz3 : ¬ 100000 - pq + 1 = 0 := by omega
    have ii : (i : Int) < (r : Int) := by omega
    have rby := HBy.out.bel HBc.out
    have HGd := hide (od.own.blockG (g := gd) rfl)
    subst hA2
    clear hrx hry hx' hyp hpq
    go_wp2_with fail
    refine wp_region_held_drew (S := (fun W => Kept (fun b => b ≠ gd) wc W)) (by kernel_rfl) (by (try dsimp only); exact Kept.all _ (Below.refl _ _).drew) (fun hHeld => ?_)
    have hdr : Below wc.heap.size wc (World.drew wc) := (Below.refl _ _).drew
    generalize World.drew wc = Wd16 at hHeld hdr ⊢
    have rby := rby.bel hdr
    have od := od.bel hdr
    have hbc := Below.refl Wd16.heap.size Wd16
    refine wpAnyH_take (i := 0) (oi := ⟨_, _, _, _, _, _⟩) (v := ?_) rfl (by kernel_rfl) (by kernel_rfl) (by kernel_rfl) (fun _ _ _ h => h) (Or.inl ⟨by rfl, ?_⟩) hHeld ?_
    rotate_left
    · (intro w hSw; (try dsimp only at hSw); go_simp; try (with_reducible rfl))
    try simp only [Act.put, List.setIfInBounds_toArray, List.set_cons_zero, List.set_cons_succ]
    refine wpAnyH_take (i := 1) (oi := ⟨_, _, _, _, _, _⟩) (v := ?_) rfl (by kernel_rfl) (by kernel_rfl) (by kernel_rfl) (fun _ _ _ h => h) (Or.inl ⟨by rfl, ?_⟩) hHeld ?_
    rotate_left
    · (intro w hSw; (try dsimp only at hSw); go_simp; try (with_reducible rfl))
    try simp only [Act.put, List.setIfInBounds_toArray, List.set_cons_zero, List.set_cons_succ]
    refine wpAnyH_take (i := 2) (oi := ⟨_, _, _, _, _, _⟩) (v := ?_) rfl (by kernel_rfl) (by kernel_rfl) (by kernel_rfl) (fun _ _ _ h => h) (Or.inl ⟨by rfl, ?_⟩) hHeld ?_
    rotate_left
    · (intro w hSw; (try dsimp only at hSw); go_simp; try (with_reducible rfl))
    try simp only [Act.put, List.setIfInBounds_toArray, List.set_cons_zero, List.set_cons_succ]
    refine wpAnyH_take (i := 3) (oi := ⟨_, _, _, _, _, _⟩) (v := ?_) rfl (by kernel_rfl) (by kernel_rfl) (by kernel_rfl) (fun _ _ _ h => h) (Or.inl ⟨by rfl, ?_⟩) hHeld ?_
    rotate_left
    · (intro w hSw; (try dsimp only at hSw); go_simp; try (with_reducible rfl))
    try simp only [Act.put, List.setIfInBounds_toArray, List.set_cons_zero, List.set_cons_succ]
    refine wpAnyH_take (i := 5) (oi := ⟨_, _, _, _, _, _⟩) (v := ?_) rfl (by kernel_rfl) (by kernel_rfl) (by kernel_rfl) (fun _ _ _ h => h) (Or.inl ⟨by rfl, ?_⟩) hHeld ?_
    rotate_left
    · (intro w hSw; (try dsimp only at hSw); go_simp; try (with_reducible rfl))
    try simp only [Act.put, List.setIfInBounds_toArray, List.set_cons_zero, List.set_cons_succ]
    refine wpAnyH_take (i := 8) (oi := ⟨_, _, _, _, _, _⟩) (v := ?_) rfl (by kernel_rfl) (by kernel_rfl) (by kernel_rfl) (fun _ _ _ h => h) (Or.inl ⟨by rfl, ?_⟩) hHeld ?_
    rotate_left
    · (intro w hSw; (try dsimp only at hSw); go_simp; try (with_reducible rfl))
    try simp only [Act.put, List.setIfInBounds_toArray, List.set_cons_zero, List.set_cons_succ]
    refine wpAnyH_take (i := 9) (oi := ⟨_, _, _, _, _, _⟩) (v := ?_) rfl (by kernel_rfl) (by kernel_rfl) (by kernel_rfl) (fun _ _ _ h => h) (Or.inl ⟨by rfl, ?_⟩) hHeld ?_
    rotate_left
    · (intro w hSw; (try dsimp only at hSw); go_simp; try (with_reducible rfl))
    try simp only [Act.put, List.setIfInBounds_toArray, List.set_cons_zero, List.set_cons_succ]
    refine wpAnyH_take (i := 10) (oi := ⟨_, _, _, _, _, _⟩) (v := ?_) rfl (by kernel_rfl) (by kernel_rfl) (by kernel_rfl) (fun _ _ _ h => h) (Or.inl ⟨by rfl, ?_⟩) hHeld ?_
    rotate_left
    · (intro w hSw; (try dsimp only at hSw); go_simp; try (with_reducible rfl))
    try simp only [Act.put, List.setIfInBounds_toArray, List.set_cons_zero, List.set_cons_succ]
    refine wpAnyH_take (i := 11) (oi := ⟨_, _, _, _, _, _⟩) (v := ?_) rfl (by kernel_rfl) (by kernel_rfl) (by kernel_rfl) (fun _ _ _ h => h) (Or.inl ⟨by rfl, ?_⟩) hHeld ?_
    rotate_left
    · (intro w hSw; (try dsimp only at hSw); go_simp; try (with_reducible rfl))
    try simp only [Act.put, List.setIfInBounds_toArray, List.set_cons_zero, List.set_cons_succ]
    refine wpAnyH_take (i := 12) (oi := ⟨_, _, _, _, _, _⟩) (v := ?_) rfl (by kernel_rfl) (by kernel_rfl) (by kernel_rfl) (fun _ _ _ h => h) (Or.inl ⟨by rfl, ?_⟩) hHeld ?_
    rotate_left
    · (intro w hSw; (try dsimp only at hSw); have cP := (hSw.cell (p := ⟨b2, off2 + i * 3 + 1, none⟩) hb2n hb2l).trans cP; go_simp; try (with_reducible rfl))
    try simp only [Act.put, List.setIfInBounds_toArray, List.set_cons_zero, List.set_cons_succ]
    refine wpAnyH_take (i := 13) (oi := ⟨_, _, _, _, _, _⟩) (v := ?_) rfl (by kernel_rfl) (by kernel_rfl) (by kernel_rfl) (fun _ _ _ h => h) (Or.inl ⟨by rfl, ?_⟩) hHeld ?_
    rotate_left
    · (intro w hSw; (try dsimp only at hSw); go_simp; try (with_reducible rfl))
    try simp only [Act.put, List.setIfInBounds_toArray, List.set_cons_zero, List.set_cons_succ]
    refine wpAnyH_take (i := 14) (oi := ⟨_, _, _, _, _, _⟩) (v := ?_) rfl (by kernel_rfl) (by kernel_rfl) (by kernel_rfl) (fun _ _ _ h => h) (Or.inl ⟨by rfl, ?_⟩) hHeld ?_
    rotate_left
    · (intro w hSw; (try dsimp only at hSw); go_simp; try (with_reducible rfl))
    try simp only [Act.put, List.setIfInBounds_toArray, List.set_cons_zero, List.set_cons_succ]
    refine cut1 (C := fun (m119 : Nat) (Wc16_1 : World) => (m119 ≤ 4294967295) ∧ (IntKind.i64.wrap (m119 : Int) = (m119 : Int)) ∧ (0 ≤ Int.tmod (m119 : Int) (100000 - pq + 1) ∧ Int.tmod (m119 : Int) (100000 - pq + 1) ≤ 100000 - pq) ∧ (IntKind.i64.wrap (pq + Int.tmod (m119 : Int) (100000 - pq + 1)) = pq + Int.tmod (m119 : Int) (100000 - pq + 1)) ∧ Below Wd16.heap.size Wd16 Wc16_1 ∧ Kept (fun b => b ≠ gd) wc Wc16_1) (G := ?_) ?_ ?_
    rotate_left
    · intro hCut
      replace hbc := Below.refl Wd16.heap.size Wd16
      refine wpAnyH_ready (rs := [4, 6]) (by kernel_rfl) (by simp) ?_
      refine AllReadyH.cons (o := ⟨_, _, _, _, _, _⟩) rfl (fun K hK => ?_) ?_
      ·
        obtain ⟨_, z0, _, _, _⟩ := od.dear Hry.out 0
        rw [Hpq.out] at z0
        go_simp
        clear z0
        have hHeldN := hHeld
        refine hK.out _ _ ?_ (fun hHeld2 => ?_)
        · exact hHeldN
        clear hK K hHeldN; have hHeld := hHeld2; clear hHeld2
        try simp only [Act.put, List.setIfInBounds_toArray, List.set_cons_zero, List.set_cons_succ]
        refine wpAnyH_ready (rs := [6]) (by kernel_rfl) (by simp) ?_
        refine AllReadyH.cons (o := ⟨_, _, _, _, _, _⟩) rfl (fun K hK => ?_) AllReadyH.nil
        go_simp
        refine (sat_any A nb cb bys 3 _ Hnb.out H32.out rby hnb2 (by omega) (by omega)).mono ?_
        rintro e V119 ⟨m119, rfl, hm119, hb⟩
        have fm119 : IntKind.i64.wrap (m119 : Int) = (m119 : Int) := wrapI (by omega)
        have hd119 : 0 ≤ Int.tmod (m119 : Int) (100000 - pq + 1) ∧ Int.tmod (m119 : Int) (100000 - pq + 1) ≤ 100000 - pq := ⟨Int.tmod_nonneg _ (by omega), by rw [Int.tmod_eq_emod_of_nonneg (by omega)]; have := Int.emod_lt_of_pos (m119 : Int) (show 0 < 100000 - pq + 1 by omega); omega⟩
        have fw119 : IntKind.i64.wrap (pq + Int.tmod (m119 : Int) (100000 - pq + 1)) = pq + Int.tmod (m119 : Int) (100000 - pq + 1) := wrapI (by omega)
        go_wp2_with fail
        have hHeldN := hHeld.trans (Kept.all _ hb)
        have rby := rby.bel hb
        have od := od.bel hb
        have hbc := hbc.trans (hb.mono hbc.size)
        refine hK.out _ _ ?_ (fun hHeld2 => ?_)
        · exact hHeldN
        clear hK K hHeldN hb; have hHeld := hHeld2; clear hHeld2
        try simp only [Act.put, List.setIfInBounds_toArray, List.set_cons_zero, List.set_cons_succ]
        refine wpAnyH_take (i := 7) (oi := ⟨_, _, _, _, _, _⟩) (v := ?_) rfl (by kernel_rfl) (by kernel_rfl) (by kernel_rfl) (fun _ _ _ h => h) (Or.inl ⟨by rfl, ?_⟩) hHeld ?_
        rotate_left
        · (intro w hSw; (try dsimp only at hSw); go_simp; try (with_reducible rfl))
        try simp only [Act.put, List.setIfInBounds_toArray, List.set_cons_zero, List.set_cons_succ]
        refine wpAnyH_take (i := 15) (oi := ⟨_, _, _, _, _, _⟩) (v := ?_) rfl (by kernel_rfl) (by kernel_rfl) (by kernel_rfl) (fun _ _ _ h => h) (Or.inl ⟨by rfl, ?_⟩) hHeld ?_
        rotate_left
        · (intro w hSw; (try dsimp only at hSw); go_simp; try (with_reducible rfl))
        try simp only [Act.put, List.setIfInBounds_toArray, List.set_cons_zero, List.set_cons_succ]
        refine wpAnyH_take (i := 16) (oi := ⟨_, _, _, _, _, _⟩) (v := ?_) rfl (by kernel_rfl) (by kernel_rfl) (by kernel_rfl) (fun _ _ _ h => h) (Or.inl ⟨by rfl, ?_⟩) hHeld ?_
        rotate_left
        · (intro w hSw; (try dsimp only at hSw); go_simp; try (with_reducible rfl))
        try simp only [Act.put, List.setIfInBounds_toArray, List.set_cons_zero, List.set_cons_succ]
        refine wpAnyH_take (i := 17) (oi := ⟨_, _, _, _, _, _⟩) (v := ?_) rfl (by kernel_rfl) (by kernel_rfl) (by kernel_rfl) (fun _ _ _ h => h) (Or.inl ⟨by rfl, ?_⟩) hHeld ?_
        rotate_left
        · (intro w hSw; (try dsimp only at hSw); go_simp; try (with_reducible rfl))
        try simp only [Act.put, List.setIfInBounds_toArray, List.set_cons_zero, List.set_cons_succ]
        refine wpAnyH_take (i := 18) (oi := ⟨_, _, _, _, _, _⟩) (v := ?_) rfl (by kernel_rfl) (by kernel_rfl) (by kernel_rfl) (fun _ _ _ h => h) (Or.inl ⟨by rfl, ?_⟩) hHeld ?_
        rotate_left
        · (intro w hSw; (try dsimp only at hSw); go_simp; try (with_reducible rfl))
        try simp only [Act.put, List.setIfInBounds_toArray, List.set_cons_zero, List.set_cons_succ]
        exact hCut m119 V119 ⟨hm119, fm119, hd119, fw119, hbc, hHeld⟩
      refine AllReadyH.cons (o := ⟨_, _, _, _, _, _⟩) rfl (fun K hK => ?_) AllReadyH.nil
      go_simp
      refine (sat_any A nb cb bys 3 _ Hnb.out H32.out rby hnb2 (by omega) (by omega)).mono ?_
      rintro e V119 ⟨m119, rfl, hm119, hb⟩
      have fm119 : IntKind.i64.wrap (m119 : Int) = (m119 : Int) := wrapI (by omega)
      have hd119 : 0 ≤ Int.tmod (m119 : Int) (100000 - pq + 1) ∧ Int.tmod (m119 : Int) (100000 - pq + 1) ≤ 100000 - pq := ⟨Int.tmod_nonneg _ (by omega), by rw [Int.tmod_eq_emod_of_nonneg (by omega)]; have := Int.emod_lt_of_pos (m119 : Int) (show 0 < 100000 - pq + 1 by omega); omega⟩
      have fw119 : IntKind.i64.wrap (pq + Int.tmod (m119 : Int) (100000 - pq + 1)) = pq + Int.tmod (m119 : Int) (100000 - pq + 1) := wrapI (by omega)
      go_wp2_with fail
      have hHeldN := hHeld.trans (Kept.all _ hb)
      have rby := rby.bel hb
      have od := od.bel hb
      have hbc := hbc.trans (hb.mono hbc.size)
      refine hK.out _ _ ?_ (fun hHeld2 => ?_)
      · exact hHeldN
      clear hK K hHeldN hb; have hHeld := hHeld2; clear hHeld2
      try simp only [Act.put, List.setIfInBounds_toArray, List.set_cons_zero, List.set_cons_succ]
      refine wpAnyH_take (i := 7) (oi := ⟨_, _, _, _, _, _⟩) (v := ?_) rfl (by kernel_rfl) (by kernel_rfl) (by kernel_rfl) (fun _ _ _ h => h) (Or.inl ⟨by rfl, ?_⟩) hHeld ?_
      rotate_left
      · (intro w hSw; (try dsimp only at hSw); go_simp; try (with_reducible rfl))
      try simp only [Act.put, List.setIfInBounds_toArray, List.set_cons_zero, List.set_cons_succ]
      refine wpAnyH_take (i := 15) (oi := ⟨_, _, _, _, _, _⟩) (v := ?_) rfl (by kernel_rfl) (by kernel_rfl) (by kernel_rfl) (fun _ _ _ h => h) (Or.inl ⟨by rfl, ?_⟩) hHeld ?_
      rotate_left
      · (intro w hSw; (try dsimp only at hSw); go_simp; try (with_reducible rfl))
      try simp only [Act.put, List.setIfInBounds_toArray, List.set_cons_zero, List.set_cons_succ]
      refine wpAnyH_ready (rs := [4]) (by kernel_rfl) (by simp) ?_
      refine AllReadyH.cons (o := ⟨_, _, _, _, _, _⟩) rfl (fun K hK => ?_) AllReadyH.nil
      obtain ⟨_, z0, _, _, _⟩ := od.dear Hry.out 0
      rw [Hpq.out] at z0
      go_simp
      clear z0
      have hHeldN := hHeld
      refine hK.out _ _ ?_ (fun hHeld2 => ?_)
      · exact hHeldN
      clear hK K hHeldN; have hHeld := hHeld2; clear hHeld2
      try simp only [Act.put, List.setIfInBounds_toArray, List.set_cons_zero, List.set_cons_succ]
      refine wpAnyH_take (i := 16) (oi := ⟨_, _, _, _, _, _⟩) (v := ?_) rfl (by kernel_rfl) (by kernel_rfl) (by kernel_rfl) (fun _ _ _ h => h) (Or.inl ⟨by rfl, ?_⟩) hHeld ?_
      rotate_left
      · (intro w hSw; (try dsimp only at hSw); go_simp; try (with_reducible rfl))
      try simp only [Act.put, List.setIfInBounds_toArray, List.set_cons_zero, List.set_cons_succ]
      refine wpAnyH_take (i := 17) (oi := ⟨_, _, _, _, _, _⟩) (v := ?_) rfl (by kernel_rfl) (by kernel_rfl) (by kernel_rfl) (fun _ _ _ h => h) (Or.inl ⟨by rfl, ?_⟩) hHeld ?_
      rotate_left
      · (intro w hSw; (try dsimp only at hSw); go_simp; try (with_reducible rfl))
      try simp only [Act.put, List.setIfInBounds_toArray, List.set_cons_zero, List.set_cons_succ]
      refine wpAnyH_take (i := 18) (oi := ⟨_, _, _, _, _, _⟩) (v := ?_) rfl (by kernel_rfl) (by kernel_rfl) (by kernel_rfl) (fun _ _ _ h => h) (Or.inl ⟨by rfl, ?_⟩) hHeld ?_
      rotate_left
      · (intro w hSw; (try dsimp only at hSw); go_simp; try (with_reducible rfl))
      try simp only [Act.put, List.setIfInBounds_toArray, List.set_cons_zero, List.set_cons_succ]
      exact hCut m119 V119 ⟨hm119, fm119, hd119, fw119, hbc, hHeld⟩
    intro m119 Wc16_1 ⟨hm119, fm119, hd119, fw119, hbN, hHeldN⟩
    have rby := rby.bel hbN
    have od := od.bel hbN
    have hbc := hbc.trans (hbN.mono hbc.size); clear hHeld hbN; have hHeld := hHeldN; clear hHeldN
    refine wpAnyH_ready (rs := [19]) (by kernel_rfl) (by simp) ?_
    refine AllReadyH.cons (o := ⟨_, _, _, _, _, _⟩) rfl (fun K hK => ?_) AllReadyH.nil
    obtain ⟨hset2, z0, f0, _, _⟩ := od.dear Hry.out (pq + Int.tmod (m119 : Int) (100000 - pq + 1))
    rw [Hpq.out] at z0
    have hHeldG := hHeld
    go_simp
    clear z0 f0
    refine hK.out _ _ ?_ (fun _ => ?_)
    · (try dsimp only); exact hHeld.trans (Kept.setCell _ ⟨gd, i * 3 + 1, none⟩ _)
    clear hK K hHeld
    try simp only [Act.put, List.setIfInBounds_toArray, List.set_cons_zero, List.set_cons_succ]
    refine wpAnyH_done (by kernel_rfl) ?_ _
    obtain ⟨dp, hdp⟩ : ∃ dp, dp = Int.tmod (m119 : Int) (100000 - pq + 1) := ⟨_, rfl⟩
    rw [← hdp] at hset2 hd119 ⊢
    obtain ⟨wd, hwd⟩ : ∃ wd, Hid (Wc16_1.setCell ⟨gd, i * 3 + 1, none⟩ (.int .i64 (pq + dp)) = wd) := ⟨_, hide rfl⟩
    have kd := hHeldG.trans (Kept.setCell Wc16_1 ⟨gd, i * 3 + 1, none⟩ (.int .i64 (pq + dp)))
    rw [hwd.out] at hset2 kd ⊢
    have HBd := hide (HBc.out.trans (kd.below (B := w.heap.size) (fun b hb => by have := HBa.out.size; have := HGd.out.1; show b ≠ gd; omega) HBc.out.size))
    have RD := hide (hset2.dearAt Hsd.out Hry.out (fun r hr => (HR.out.row r hr).2.1))
    have on := HSc.out.keptG kd (fun g hg => by
      have e : gn = g := Option.some.inj hg
      have := HGa.out.2; have := HGd.out.1; show g ≠ gd; omega)
    obtain ⟨A', c', ea, rn⟩ := on.rdn m (by rw [List.length_set]; exact Hm.out.symm)
    injection ea with ea1 _ ea2
    subst ea1
    have RN := hide rn
    have hnd : 0 ≤ dp ∧ dp ≤ 100000 - pq := hd119
    have Hrn : Hid (RentsOk (ns.set k (nk + dk)) rs) := hide ⟨by rw [List.length_set]; exact Hro.out.nl, Hro.out.rl, fun z hz => by
      rcases List.mem_or_eq_of_mem_set hz with h | h
      · exact Hro.out.n z h
      · have := Hdk.out; omega, by rw [List.length_set]; exact Hro.out.rt, Hro.out.p⟩
    have Hen : Hid (Easier ns rs (ns.set k (nk + dk)) rs) := hide (easier_need (by rw [List.length_set]) (fun j => by
      have := Hdk.out
      rw [getD_set hkl]
      by_cases hj : j = k
      · rw [if_pos hj, hj, hgd]; omega
      · rw [if_neg hj]; exact Int.le_refl _))
    have Hdr := hide (dearer_set (p := pq + dp) Hrx.out (by rw [← Hpx.out]; omega))
    have Hrd := hide (Hdr.out.ok Hro.out (fun j hj => by
      unfold prAt
      by_cases hj2 : j = i
      · rw [hj2, List.getElem?_set_self hrl]; show pq + dp ≤ 100000; omega
      · rw [List.getElem?_set_ne (fun e => hj2 e.symm)]; exact (Hro.out.pr_bd j).2))
    have Hpd := hide (planF_twin (strips_dear Hsd.out Hrx.out Hry.out (pq + dp)) ns)
    obtain ⟨gE, hG⟩ : ∃ z, z = (planF (ns.set k (nk + dk)) rs).2.2 := ⟨_, rfl⟩
    obtain ⟨gC, hGC⟩ : ∃ z, z = (planF (ns.set k (nk + dk)) rs).2.1 := ⟨_, rfl⟩
    obtain ⟨hE, hH⟩ : ∃ z, z = (planF ns (rd.set i { y with pr := pq + dp })).2.2 := ⟨_, rfl⟩
    obtain ⟨hC, hHC⟩ : ∃ z, z = (planF ns (rd.set i { y with pr := pq + dp })).2.1 := ⟨_, rfl⟩
    have G1 : gE = 0 ∨ gE = 63 := by rw [hG]; rcases plan_ok_iff Hrn.out with h | h <;> simp [h.1]
    have G2 : Hid (gE = 0 → 0 = (0 : Int) ∧ eC ≤ gC) := hide fun h => by
      have h1 := plan_easier Hro.out Hrn.out Hen.out (by rw [← hG]; exact h)
      rw [← HE.out] at h1
      rw [hGC, HC.out]
      exact h1
    have G3 : hE = 0 := by rw [hH, Hpd.out, HE.out]; exact Hdr.out.same Hro.out Hrd.out
    have G4 : Hid (hE = 0 → eC ≤ hC) := hide fun h => by
      rw [hHC, HC.out, Hpd.out]
      exact (plan_easier Hro.out Hrd.out (Hdr.out.easier Hro.out.rl) (by rw [← Hpd.out, ← hH]; exact h)).2
    have HG := hide hG; have HGC := hide hGC; have HH := hide hH; have HHC := hide hHC
    clear hset2 kd hHeldG fw119 fm119 hdp hd119 hnd od fn1 fn2 nz3 cP hb2l hb2n hbc on rn hG hGC hH hHC rby hp hgd hnk
    have G3' := hide G3; have G1' := hide G1; clear G3 G1
    go_wp2_with fail
    refine (plan_any (some ⟨gn, 0, none⟩) (some ⟨b2, off2, none⟩) m _ r _ (ns.set k (nk + dk)) rs wd RN.out (by rw [List.length_set]; exact Hm.out) hm2 (HR.out.bel HBd.out) hr2).mono ?_
    rintro e we ⟨vC, rfl, _, hbe⟩
    rw [← HG.out, ← HGC.out]
    have HBe := hide (HBd.out.trans (hbe.mono HBd.out.size))
    have Hde := hide hbe
    clear hbe
    go_wp2_with fail
    refine (plan_any (some ⟨b1, off1, none⟩) (some ⟨gd, 0, none⟩) m _ r _ ns (rd.set i { y with pr := pq + dp }) we (HN.out.bel HBe.out) Hm.out hm2 (RD.out.bel Hde.out) hr2).mono ?_
    rintro e wf ⟨vD, rfl, _, hbf⟩
    rw [← HH.out, ← HHC.out]
    have HBf := hide (HBe.out.trans (hbf.mono HBe.out.size))
    clear hbf HG HGC HH HHC
    have G3 := G3'.out; have G1 := G1'.out
    clear G3' G1'
    have d2 : decide (eC ≤ hC) = true := decide_eq_true (G4.out G3)
    subst G3
    rcases G1 with g0 | g0
    · have d3 : decide (eC ≤ gC) = true := decide_eq_true (G2.out g0).2
      subst g0
      go_wp2_with fail
      go_ret
      exact ⟨rfl, HBf.out⟩
    · subst g0
      go_wp2_with fail
      go_ret
      exact ⟨rfl, HBf.out⟩
  · subst h0
    go_wp2_with fail
    have rby := HBy.out.bel HB8.out
    refine wp_region_held_drew (S := (fun W => Below w8.heap.size w8 W)) (by kernel_rfl) (by (try dsimp only); exact (Below.refl _ _).drew) (fun hHeld => ?_)
    generalize World.drew w8 = Wd13 at hHeld ⊢
    have rby := rby.bel hHeld
    have hbc := Below.refl Wd13.heap.size Wd13
    refine wpAnyH_take (i := 0) (oi := ⟨_, _, _, _, _, _⟩) (v := ?_) rfl (by kernel_rfl) (by kernel_rfl) (by kernel_rfl) (fun _ _ _ h => h) (Or.inl ⟨by rfl, ?_⟩) hHeld ?_
    rotate_left
    · (intro w hSw; (try dsimp only at hSw); go_simp; try (with_reducible rfl))
    try simp only [Act.put, List.setIfInBounds_toArray, List.set_cons_zero, List.set_cons_succ]
    refine wpAnyH_take (i := 3) (oi := ⟨_, _, _, _, _, _⟩) (v := ?_) rfl (by kernel_rfl) (by kernel_rfl) (by kernel_rfl) (fun _ _ _ h => h) (Or.inl ⟨by rfl, ?_⟩) hHeld ?_
    rotate_left
    · (intro w hSw; (try dsimp only at hSw); go_simp; try (with_reducible rfl))
    try simp only [Act.put, List.setIfInBounds_toArray, List.set_cons_zero, List.set_cons_succ]
    refine wpAnyH_take (i := 4) (oi := ⟨_, _, _, _, _, _⟩) (v := ?_) rfl (by kernel_rfl) (by kernel_rfl) (by kernel_rfl) (fun _ _ _ h => h) (Or.inl ⟨by rfl, ?_⟩) hHeld ?_
    rotate_left
    · (intro w hSw; (try dsimp only at hSw); go_simp; try (with_reducible rfl))
    try simp only [Act.put, List.setIfInBounds_toArray, List.set_cons_zero, List.set_cons_succ]
    refine wpAnyH_take (i := 6) (oi := ⟨_, _, _, _, _, _⟩) (v := ?_) rfl (by kernel_rfl) (by kernel_rfl) (by kernel_rfl) (fun _ _ _ h => h) (Or.inl ⟨by rfl, ?_⟩) hHeld ?_
    rotate_left
    · (intro w hSw; (try dsimp only at hSw); go_simp; try (with_reducible rfl))
    try simp only [Act.put, List.setIfInBounds_toArray, List.set_cons_zero, List.set_cons_succ]
    refine wpAnyH_take (i := 9) (oi := ⟨_, _, _, _, _, _⟩) (v := ?_) rfl (by kernel_rfl) (by kernel_rfl) (by kernel_rfl) (fun _ _ _ h => h) (Or.inl ⟨by rfl, ?_⟩) hHeld ?_
    rotate_left
    · (intro w hSw; (try dsimp only at hSw); go_simp; try (with_reducible rfl))
    try simp only [Act.put, List.setIfInBounds_toArray, List.set_cons_zero, List.set_cons_succ]
    refine wpAnyH_take (i := 10) (oi := ⟨_, _, _, _, _, _⟩) (v := ?_) rfl (by kernel_rfl) (by kernel_rfl) (by kernel_rfl) (fun _ _ _ h => h) (Or.inl ⟨by rfl, ?_⟩) hHeld ?_
    rotate_left
    · (intro w hSw; (try dsimp only at hSw); go_simp; try (with_reducible rfl))
    try simp only [Act.put, List.setIfInBounds_toArray, List.set_cons_zero, List.set_cons_succ]
    refine wpAnyH_ready (rs := [1]) (by kernel_rfl) (by simp) ?_
    refine AllReadyH.cons (o := ⟨_, _, _, _, _, _⟩) rfl (fun K hK => ?_) AllReadyH.nil
    go_simp
    refine (sat_any A nb cb bys 0 _ Hnb.out H32.out rby hnb2 (by omega) (by omega)).mono ?_
    rintro e V81 ⟨m81, rfl, hm81, hb⟩
    have fm81 : IntKind.i64.wrap (m81 : Int) = (m81 : Int) := wrapI (by omega)
    go_wp2_with fail
    have hHeldN := hHeld.trans (hb.mono hHeld.size)
    have rby := rby.bel hb
    have hbc := hbc.trans (hb.mono hbc.size)
    refine hK.out _ _ ?_ (fun hHeld2 => ?_)
    · exact hHeldN
    clear hK K hHeld hHeldN hb; have hHeld := hHeld2; clear hHeld2
    try simp only [Act.put, List.setIfInBounds_toArray, List.set_cons_zero, List.set_cons_succ]
    refine wpAnyH_take (i := 2) (oi := ⟨_, _, _, _, _, _⟩) (v := ?_) rfl (by kernel_rfl) (by kernel_rfl) (by kernel_rfl) (fun _ _ _ h => h) (Or.inl ⟨by rfl, ?_⟩) hHeld ?_
    rotate_left
    · (intro w hSw; (try dsimp only at hSw); go_simp; try (with_reducible rfl))
    try simp only [Act.put, List.setIfInBounds_toArray, List.set_cons_zero, List.set_cons_succ]
    refine wpAnyH_take (i := 5) (oi := ⟨_, _, _, _, _, _⟩) (v := ?_) rfl (by kernel_rfl) (by kernel_rfl) (by kernel_rfl) (fun _ _ _ h => h) (Or.inl ⟨by rfl, ?_⟩) hHeld ?_
    rotate_left
    · (intro w hSw; (try dsimp only at hSw); go_simp; try (with_reducible rfl))
    try simp only [Act.put, List.setIfInBounds_toArray, List.set_cons_zero, List.set_cons_succ]
    refine wpAnyH_ready (rs := [7]) (by kernel_rfl) (by simp) ?_
    refine AllReadyH.cons (o := ⟨_, _, _, _, _, _⟩) rfl (fun K hK => ?_) AllReadyH.nil
    go_simp
    refine (sat_any A nb cb bys 1 _ Hnb.out H32.out rby hnb2 (by omega) (by omega)).mono ?_
    rintro e V87 ⟨m87, rfl, hm87, hb⟩
    have fm87 : IntKind.i64.wrap (m87 : Int) = (m87 : Int) := wrapI (by omega)
    go_wp2_with fail
    have hHeldN := hHeld.trans (hb.mono hHeld.size)
    have rby := rby.bel hb
    have hbc := hbc.trans (hb.mono hbc.size)
    refine hK.out _ _ ?_ (fun hHeld2 => ?_)
    · exact hHeldN
    clear hK K hHeld hHeldN hb; have hHeld := hHeld2; clear hHeld2
    try simp only [Act.put, List.setIfInBounds_toArray, List.set_cons_zero, List.set_cons_succ]
    refine wpAnyH_take (i := 8) (oi := ⟨_, _, _, _, _, _⟩) (v := ?_) rfl (by kernel_rfl) (by kernel_rfl) (by kernel_rfl) (fun _ _ _ h => h) (Or.inl ⟨by rfl, ?_⟩) hHeld ?_
    rotate_left
    · (intro w hSw; (try dsimp only at hSw); go_simp; try (with_reducible rfl))
    try simp only [Act.put, List.setIfInBounds_toArray, List.set_cons_zero, List.set_cons_succ]
    refine wpAnyH_take (i := 11) (oi := ⟨_, _, _, _, _, _⟩) (v := ?_) rfl (by kernel_rfl) (by kernel_rfl) (by kernel_rfl) (fun _ _ _ h => h) (Or.inl ⟨by rfl, ?_⟩) hHeld ?_
    rotate_left
    · (intro w hSw; (try dsimp only at hSw); go_simp; try (with_reducible rfl))
    try simp only [Act.put, List.setIfInBounds_toArray, List.set_cons_zero, List.set_cons_succ]
    refine wpAnyH_take (i := 12) (oi := ⟨_, _, _, _, _, _⟩) (v := ?_) rfl (by kernel_rfl) (by kernel_rfl) (by kernel_rfl) (fun _ _ _ h => h) (Or.inl ⟨by rfl, ?_⟩) hHeld ?_
    rotate_left
    · (intro w hSw; (try dsimp only at hSw); go_simp; try (with_reducible rfl))
    try simp only [Act.put, List.setIfInBounds_toArray, List.set_cons_zero, List.set_cons_succ]
    refine wpAnyH_take (i := 13) (oi := ⟨_, _, _, _, _, _⟩) (v := ?_) rfl (by kernel_rfl) (by kernel_rfl) (by kernel_rfl) (fun _ _ _ h => h) (Or.inl ⟨by rfl, ?_⟩) hHeld ?_
    rotate_left
    · (intro w hSw; (try dsimp only at hSw); go_simp; try (with_reducible rfl))
    try simp only [Act.put, List.setIfInBounds_toArray, List.set_cons_zero, List.set_cons_succ]
    refine wpAnyH_done (by kernel_rfl) ?_ _
    have HB9 := hide (HB8.out.trans (hHeld.mono HB8.out.size))
    obtain ⟨w9, rfl⟩ : ∃ w9, w9 = V87 := ⟨V87, rfl⟩
    obtain ⟨k, hk, hkm⟩ : ∃ k : Nat, Int.tmod (m81 : Int) (m : Int) = (k : Int) ∧ k < m := ⟨m81 % m, by rw [Int.tmod_eq_emod_of_nonneg (by omega)]; exact (Int.natCast_emod _ _).symm, Nat.mod_lt _ (by omega)⟩
    obtain ⟨i, hi, hir⟩ : ∃ i : Nat, Int.tmod (m87 : Int) (r : Int) = (i : Int) ∧ i < r := ⟨m87 % r, by rw [Int.tmod_eq_emod_of_nonneg (by omega)]; exact (Int.natCast_emod _ _).symm, Nat.mod_lt _ (by omega)⟩
    rw [hk, hi]
    clear hk hi hHeld hbc rby fm81 fm87
    have L92 := hide (lit0 (cells := icell) w9 3 1 w9.heap.size (fun _ => rfl) (Nat.le_refl _))
    have hb92 := hide (below_new w9 (.cells #[] 3))
    have R92 := hide ((HN.out.bel HB9.out).bel hb92.out)
    go_wp2_with (at_builtin; refine wpList_fresh el_int rfl (.tmp 92) (.tmp 93) rfl rfl L92.out Hm.out.symm rfl R92.out (by omega) hb92.out.size ?_; intro v wa o1 k1 hat1; have O1 := hide o1; have K1 := hide k1; clear o1 k1 hat1)
    obtain ⟨A19, c19, rfl, _⟩ := O1.out.rdn m Hm.out.symm
    obtain ⟨gn, rfl⟩ := own_at' O1.out (by omega)
    have H9a := hide (hb92.out.trans (K1.out.mono hb92.out.size))
    have HBa := hide (HB9.out.trans (H9a.out.mono HB9.out.size))
    clear L92 hb92 R92 K1
    refine (rtwin_own A2 r c2 rs wa (HR0.out.bel HBa.out) (by omega) Hrz.out).mono ?_
    rintro e wb ⟨A20, c20, rd, rfl, od, hsd, hbd⟩
    have HBb := hide (HBa.out.trans (hbd.mono HBa.out.size))
    have OD := hide od
    have o1 := O1.out.bel hbd
    have Hsd := hide hsd
    have HGa := hide (O1.out.blockG (g := gn) rfl)
    obtain ⟨gd, rfl⟩ := own_at' od.own (by omega)
    clear od hbd hsd O1
    go_wp2_with fail
    have hkl : k < ns.length := by rw [← Hm.out]; exact hkm
    obtain ⟨b1, off1, nk, hA1, hb1l, hxk, cN⟩ := (HN.out.bel HBb.out).int (i := k) hkl
    have hb1n : b1 ≠ gn := by
      obtain ⟨b1', _, _, hA1', hb1'', _, _⟩ := HN.out.int (i := k) hkl
      rw [hA1] at hA1'
      injection hA1' with e
      injection e with e _ _
      have := HB9.out.size; have := HGa.out.1; omega
    have hgd : ns.getD k 0 = nk := by rw [List.getD_eq_getElem?_getD, hxk]; rfl
    have hnk := Hro.out.n nk (List.mem_of_getElem? hxk)
    have fn1 : IntKind.i64.wrap (23040 - nk) = 23040 - nk := wrapI (by omega)
    have fn2 : IntKind.i64.wrap (23040 - nk + 1) = 23040 - nk + 1 := wrapI (by omega)
    have nz3 : ¬ 23040 - nk + 1 = 0 := by omega
    have ik : (k : Int) < (m : Int) := by omega
    have rby := HBy.out.bel HBb.out
    subst hA1
    clear hxk
    refine wp_region_held_drew (S := (fun W => Kept (fun b => b ≠ gn) wb W)) (by kernel_rfl) (by (try dsimp only); exact Kept.all _ (Below.refl _ _).drew) (fun hHeld => ?_)
    have hdr : Below wb.heap.size wb (World.drew wb) := (Below.refl _ _).drew
    generalize World.drew wb = Wd15 at hHeld hdr ⊢
    have rby := rby.bel hdr
    have o1 := o1.bel hdr
    have hbc := Below.refl Wd15.heap.size Wd15
    refine wpAnyH_take (i := 0) (oi := ⟨_, _, _, _, _, _⟩) (v := ?_) rfl (by kernel_rfl) (by kernel_rfl) (by kernel_rfl) (fun _ _ _ h => h) (Or.inl ⟨by rfl, ?_⟩) hHeld ?_
    rotate_left
    · (intro w hSw; (try dsimp only at hSw); go_simp; try (with_reducible rfl))
    try simp only [Act.put, List.setIfInBounds_toArray, List.set_cons_zero, List.set_cons_succ]
    refine wpAnyH_take (i := 1) (oi := ⟨_, _, _, _, _, _⟩) (v := ?_) rfl (by kernel_rfl) (by kernel_rfl) (by kernel_rfl) (fun _ _ _ h => h) (Or.inl ⟨by rfl, ?_⟩) hHeld ?_
    rotate_left
    · (intro w hSw; (try dsimp only at hSw); go_simp; try (with_reducible rfl))
    try simp only [Act.put, List.setIfInBounds_toArray, List.set_cons_zero, List.set_cons_succ]
    refine wpAnyH_take (i := 2) (oi := ⟨_, _, _, _, _, _⟩) (v := ?_) rfl (by kernel_rfl) (by kernel_rfl) (by kernel_rfl) (fun _ _ _ h => h) (Or.inl ⟨by rfl, ?_⟩) hHeld ?_
    rotate_left
    · (intro w hSw; (try dsimp only at hSw); go_simp; try (with_reducible rfl))
    try simp only [Act.put, List.setIfInBounds_toArray, List.set_cons_zero, List.set_cons_succ]
    refine wpAnyH_take (i := 4) (oi := ⟨_, _, _, _, _, _⟩) (v := ?_) rfl (by kernel_rfl) (by kernel_rfl) (by kernel_rfl) (fun _ _ _ h => h) (Or.inl ⟨by rfl, ?_⟩) hHeld ?_
    rotate_left
    · (intro w hSw; (try dsimp only at hSw); go_simp; try (with_reducible rfl))
    try simp only [Act.put, List.setIfInBounds_toArray, List.set_cons_zero, List.set_cons_succ]
    refine wpAnyH_take (i := 7) (oi := ⟨_, _, _, _, _, _⟩) (v := ?_) rfl (by kernel_rfl) (by kernel_rfl) (by kernel_rfl) (fun _ _ _ h => h) (Or.inl ⟨by rfl, ?_⟩) hHeld ?_
    rotate_left
    · (intro w hSw; (try dsimp only at hSw); go_simp; try (with_reducible rfl))
    try simp only [Act.put, List.setIfInBounds_toArray, List.set_cons_zero, List.set_cons_succ]
    refine wpAnyH_take (i := 8) (oi := ⟨_, _, _, _, _, _⟩) (v := ?_) rfl (by kernel_rfl) (by kernel_rfl) (by kernel_rfl) (fun _ _ _ h => h) (Or.inl ⟨by rfl, ?_⟩) hHeld ?_
    rotate_left
    · (intro w hSw; (try dsimp only at hSw); go_simp; try (with_reducible rfl))
    try simp only [Act.put, List.setIfInBounds_toArray, List.set_cons_zero, List.set_cons_succ]
    refine wpAnyH_take (i := 9) (oi := ⟨_, _, _, _, _, _⟩) (v := ?_) rfl (by kernel_rfl) (by kernel_rfl) (by kernel_rfl) (fun _ _ _ h => h) (Or.inl ⟨by rfl, ?_⟩) hHeld ?_
    rotate_left
    · (intro w hSw; (try dsimp only at hSw); go_simp; try (with_reducible rfl))
    try simp only [Act.put, List.setIfInBounds_toArray, List.set_cons_zero, List.set_cons_succ]
    refine wpAnyH_take (i := 10) (oi := ⟨_, _, _, _, _, _⟩) (v := ?_) rfl (by kernel_rfl) (by kernel_rfl) (by kernel_rfl) (fun _ _ _ h => h) (Or.inl ⟨by rfl, ?_⟩) hHeld ?_
    rotate_left
    · (intro w hSw; (try dsimp only at hSw); have cN := (hSw.cell (p := ⟨b1, off1 + k, none⟩) hb1n hb1l).trans cN; go_simp; try (with_reducible rfl))
    try simp only [Act.put, List.setIfInBounds_toArray, List.set_cons_zero, List.set_cons_succ]
    refine wpAnyH_take (i := 11) (oi := ⟨_, _, _, _, _, _⟩) (v := ?_) rfl (by kernel_rfl) (by kernel_rfl) (by kernel_rfl) (fun _ _ _ h => h) (Or.inl ⟨by rfl, ?_⟩) hHeld ?_
    rotate_left
    · (intro w hSw; (try dsimp only at hSw); go_simp; try (with_reducible rfl))
    try simp only [Act.put, List.setIfInBounds_toArray, List.set_cons_zero, List.set_cons_succ]
    refine wpAnyH_take (i := 12) (oi := ⟨_, _, _, _, _, _⟩) (v := ?_) rfl (by kernel_rfl) (by kernel_rfl) (by kernel_rfl) (fun _ _ _ h => h) (Or.inl ⟨by rfl, ?_⟩) hHeld ?_
    rotate_left
    · (intro w hSw; (try dsimp only at hSw); go_simp; try (with_reducible rfl))
    try simp only [Act.put, List.setIfInBounds_toArray, List.set_cons_zero, List.set_cons_succ]
    refine cut1 (C := fun (m102 : Nat) (Wc15_1 : World) => (m102 ≤ 4294967295) ∧ (IntKind.i64.wrap (m102 : Int) = (m102 : Int)) ∧ (0 ≤ Int.tmod (m102 : Int) (23040 - nk + 1) ∧ Int.tmod (m102 : Int) (23040 - nk + 1) ≤ 23040 - nk) ∧ (IntKind.i64.wrap (nk + Int.tmod (m102 : Int) (23040 - nk + 1)) = nk + Int.tmod (m102 : Int) (23040 - nk + 1)) ∧ Below Wd15.heap.size Wd15 Wc15_1 ∧ Kept (fun b => b ≠ gn) wb Wc15_1) (G := ?_) ?_ ?_
    rotate_left
    · intro hCut
      replace hbc := Below.refl Wd15.heap.size Wd15
      refine wpAnyH_ready (rs := [3, 5]) (by kernel_rfl) (by simp) ?_
      refine AllReadyH.cons (o := ⟨_, _, _, _, _, _⟩) rfl (fun K hK => ?_) ?_
      ·
        obtain ⟨_, z0, _⟩ := o1.put1 hkl Hm.out nk
        rw [hgd] at z0
        go_simp
        clear z0
        have hHeldN := hHeld
        refine hK.out _ _ ?_ (fun hHeld2 => ?_)
        · exact hHeldN
        clear hK K hHeldN; have hHeld := hHeld2; clear hHeld2
        try simp only [Act.put, List.setIfInBounds_toArray, List.set_cons_zero, List.set_cons_succ]
        refine wpAnyH_ready (rs := [5]) (by kernel_rfl) (by simp) ?_
        refine AllReadyH.cons (o := ⟨_, _, _, _, _, _⟩) rfl (fun K hK => ?_) AllReadyH.nil
        go_simp
        refine (sat_any A nb cb bys 2 _ Hnb.out H32.out rby hnb2 (by omega) (by omega)).mono ?_
        rintro e V102 ⟨m102, rfl, hm102, hb⟩
        have fm102 : IntKind.i64.wrap (m102 : Int) = (m102 : Int) := wrapI (by omega)
        have hd102 : 0 ≤ Int.tmod (m102 : Int) (23040 - nk + 1) ∧ Int.tmod (m102 : Int) (23040 - nk + 1) ≤ 23040 - nk := ⟨Int.tmod_nonneg _ (by omega), by rw [Int.tmod_eq_emod_of_nonneg (by omega)]; have := Int.emod_lt_of_pos (m102 : Int) (show 0 < 23040 - nk + 1 by omega); omega⟩
        have fw102 : IntKind.i64.wrap (nk + Int.tmod (m102 : Int) (23040 - nk + 1)) = nk + Int.tmod (m102 : Int) (23040 - nk + 1) := wrapI (by omega)
        go_wp2_with fail
        have hHeldN := hHeld.trans (Kept.all _ hb)
        have rby := rby.bel hb
        have o1 := o1.bel hb
        have hbc := hbc.trans (hb.mono hbc.size)
        refine hK.out _ _ ?_ (fun hHeld2 => ?_)
        · exact hHeldN
        clear hK K hHeldN hb; have hHeld := hHeld2; clear hHeld2
        try simp only [Act.put, List.setIfInBounds_toArray, List.set_cons_zero, List.set_cons_succ]
        refine wpAnyH_take (i := 6) (oi := ⟨_, _, _, _, _, _⟩) (v := ?_) rfl (by kernel_rfl) (by kernel_rfl) (by kernel_rfl) (fun _ _ _ h => h) (Or.inl ⟨by rfl, ?_⟩) hHeld ?_
        rotate_left
        · (intro w hSw; (try dsimp only at hSw); go_simp; try (with_reducible rfl))
        try simp only [Act.put, List.setIfInBounds_toArray, List.set_cons_zero, List.set_cons_succ]
        refine wpAnyH_take (i := 13) (oi := ⟨_, _, _, _, _, _⟩) (v := ?_) rfl (by kernel_rfl) (by kernel_rfl) (by kernel_rfl) (fun _ _ _ h => h) (Or.inl ⟨by rfl, ?_⟩) hHeld ?_
        rotate_left
        · (intro w hSw; (try dsimp only at hSw); go_simp; try (with_reducible rfl))
        try simp only [Act.put, List.setIfInBounds_toArray, List.set_cons_zero, List.set_cons_succ]
        refine wpAnyH_take (i := 14) (oi := ⟨_, _, _, _, _, _⟩) (v := ?_) rfl (by kernel_rfl) (by kernel_rfl) (by kernel_rfl) (fun _ _ _ h => h) (Or.inl ⟨by rfl, ?_⟩) hHeld ?_
        rotate_left
        · (intro w hSw; (try dsimp only at hSw); go_simp; try (with_reducible rfl))
        try simp only [Act.put, List.setIfInBounds_toArray, List.set_cons_zero, List.set_cons_succ]
        refine wpAnyH_take (i := 15) (oi := ⟨_, _, _, _, _, _⟩) (v := ?_) rfl (by kernel_rfl) (by kernel_rfl) (by kernel_rfl) (fun _ _ _ h => h) (Or.inl ⟨by rfl, ?_⟩) hHeld ?_
        rotate_left
        · (intro w hSw; (try dsimp only at hSw); go_simp; try (with_reducible rfl))
        try simp only [Act.put, List.setIfInBounds_toArray, List.set_cons_zero, List.set_cons_succ]
        exact hCut m102 V102 ⟨hm102, fm102, hd102, fw102, hbc, hHeld⟩
      refine AllReadyH.cons (o := ⟨_, _, _, _, _, _⟩) rfl (fun K hK => ?_) AllReadyH.nil
      go_simp
      refine (sat_any A nb cb bys 2 _ Hnb.out H32.out rby hnb2 (by omega) (by omega)).mono ?_
      rintro e V102 ⟨m102, rfl, hm102, hb⟩
      have fm102 : IntKind.i64.wrap (m102 : Int) = (m102 : Int) := wrapI (by omega)
      have hd102 : 0 ≤ Int.tmod (m102 : Int) (23040 - nk + 1) ∧ Int.tmod (m102 : Int) (23040 - nk + 1) ≤ 23040 - nk := ⟨Int.tmod_nonneg _ (by omega), by rw [Int.tmod_eq_emod_of_nonneg (by omega)]; have := Int.emod_lt_of_pos (m102 : Int) (show 0 < 23040 - nk + 1 by omega); omega⟩
      have fw102 : IntKind.i64.wrap (nk + Int.tmod (m102 : Int) (23040 - nk + 1)) = nk + Int.tmod (m102 : Int) (23040 - nk + 1) := wrapI (by omega)
      go_wp2_with fail
      have hHeldN := hHeld.trans (Kept.all _ hb)
      have rby := rby.bel hb
      have o1 := o1.bel hb
      have hbc := hbc.trans (hb.mono hbc.size)
      refine hK.out _ _ ?_ (fun hHeld2 => ?_)
      · exact hHeldN
      clear hK K hHeldN hb; have hHeld := hHeld2; clear hHeld2
      try simp only [Act.put, List.setIfInBounds_toArray, List.set_cons_zero, List.set_cons_succ]
      refine wpAnyH_take (i := 6) (oi := ⟨_, _, _, _, _, _⟩) (v := ?_) rfl (by kernel_rfl) (by kernel_rfl) (by kernel_rfl) (fun _ _ _ h => h) (Or.inl ⟨by rfl, ?_⟩) hHeld ?_
      rotate_left
      · (intro w hSw; (try dsimp only at hSw); go_simp; try (with_reducible rfl))
      try simp only [Act.put, List.setIfInBounds_toArray, List.set_cons_zero, List.set_cons_succ]
      refine wpAnyH_take (i := 13) (oi := ⟨_, _, _, _, _, _⟩) (v := ?_) rfl (by kernel_rfl) (by kernel_rfl) (by kernel_rfl) (fun _ _ _ h => h) (Or.inl ⟨by rfl, ?_⟩) hHeld ?_
      rotate_left
      · (intro w hSw; (try dsimp only at hSw); go_simp; try (with_reducible rfl))
      try simp only [Act.put, List.setIfInBounds_toArray, List.set_cons_zero, List.set_cons_succ]
      refine wpAnyH_ready (rs := [3]) (by kernel_rfl) (by simp) ?_
      refine AllReadyH.cons (o := ⟨_, _, _, _, _, _⟩) rfl (fun K hK => ?_) AllReadyH.nil
      obtain ⟨_, z0, _⟩ := o1.put1 hkl Hm.out nk
      rw [hgd] at z0
      go_simp
      clear z0
      have hHeldN := hHeld
      refine hK.out _ _ ?_ (fun hHeld2 => ?_)
      · exact hHeldN
      clear hK K hHeldN; have hHeld := hHeld2; clear hHeld2
      try simp only [Act.put, List.setIfInBounds_toArray, List.set_cons_zero, List.set_cons_succ]
      refine wpAnyH_take (i := 14) (oi := ⟨_, _, _, _, _, _⟩) (v := ?_) rfl (by kernel_rfl) (by kernel_rfl) (by kernel_rfl) (fun _ _ _ h => h) (Or.inl ⟨by rfl, ?_⟩) hHeld ?_
      rotate_left
      · (intro w hSw; (try dsimp only at hSw); go_simp; try (with_reducible rfl))
      try simp only [Act.put, List.setIfInBounds_toArray, List.set_cons_zero, List.set_cons_succ]
      refine wpAnyH_take (i := 15) (oi := ⟨_, _, _, _, _, _⟩) (v := ?_) rfl (by kernel_rfl) (by kernel_rfl) (by kernel_rfl) (fun _ _ _ h => h) (Or.inl ⟨by rfl, ?_⟩) hHeld ?_
      rotate_left
      · (intro w hSw; (try dsimp only at hSw); go_simp; try (with_reducible rfl))
      try simp only [Act.put, List.setIfInBounds_toArray, List.set_cons_zero, List.set_cons_succ]
      exact hCut m102 V102 ⟨hm102, fm102, hd102, fw102, hbc, hHeld⟩
    intro m102 Wc15_1 ⟨hm102, fm102, hd102, fw102, hbN, hHeldN⟩
    have rby := rby.bel hbN
    have o1 := o1.bel hbN
    have hbc := hbc.trans (hbN.mono hbc.size); clear hHeld hbN; have hHeld := hHeldN; clear hHeldN
    refine wpAnyH_ready (rs := [16]) (by kernel_rfl) (by simp) ?_
    refine AllReadyH.cons (o := ⟨_, _, _, _, _, _⟩) rfl (fun K hK => ?_) AllReadyH.nil
    obtain ⟨hset, z0, f0⟩ := o1.put1 hkl Hm.out (nk + Int.tmod (m102 : Int) (23040 - nk + 1))
    have hHeldF := hHeld
    go_simp
    clear z0 f0
    refine hK.out _ _ ?_ (fun _ => ?_)
    · (try dsimp only); exact hHeld.trans (Kept.setCell _ ⟨gn, k, none⟩ _)
    clear hK K hHeld
    try simp only [Act.put, List.setIfInBounds_toArray, List.set_cons_zero, List.set_cons_succ]
    refine wpAnyH_done (by kernel_rfl) ?_ _
    obtain ⟨dk, hdk⟩ : ∃ dk, dk = Int.tmod (m102 : Int) (23040 - nk + 1) := ⟨_, rfl⟩
    rw [← hdk] at hset hd102 ⊢
    obtain ⟨wc, hwc⟩ : ∃ wc, Hid (Wc15_1.setCell ⟨gn, k, none⟩ (.int .i64 (nk + dk)) = wc) := ⟨_, hide rfl⟩
    have kc := hHeldF.trans (Kept.setCell Wc15_1 ⟨gn, k, none⟩ (.int .i64 (nk + dk)))
    rw [hwc.out] at hset kc ⊢
    have HKC := hide kc
    have HSc := hide hset
    have Hdk := hide (show 0 ≤ dk ∧ dk ≤ 23040 - nk from hd102)
    have HBc := hide (HBb.out.trans (kc.below (B := w.heap.size) (fun b hb => by have := HB9.out.size; have := HGa.out.1; show b ≠ gn; omega) HBb.out.size))
    have od := OD.out.keptR kc (fun b hb => by have := HGa.out.2; show b ≠ gn; omega)
    clear hset kc hHeldF fw102 fm102 hdk hd102 o1 fn1 fn2 nz3 cN hb1l hb1n hbc
    have hrl : i < rs.length := by have := HR.out.en; omega
    obtain ⟨b2, off2, x, hA2, hb2l, hrx, _, cP, _⟩ := (HR0.out.bel HBc.out).rd.rr (i := i) hrl
    have hb2n : b2 ≠ gd := by
      obtain ⟨b2', _, _, hA2', hb2'', _, _, _, _⟩ := HR0.out.rd.rr (i := i) hrl
      rw [hA2] at hA2'
      injection hA2' with e
      injection e with e _ _
      have := HBa.out.size; have := (od.own.blockG (g := gd) rfl).1; omega
    obtain ⟨y, hry⟩ : ∃ y, rd[i]? = some y := ⟨_, List.getElem?_eq_getElem (by have := od.at_.en; omega)⟩
    obtain ⟨x', hx', _, hyp, _, _⟩ := strips_at Hsd.out hry
    obtain rfl : x = x' := by rw [hrx] at hx'; exact Option.some.inj hx'
    obtain ⟨pq, hpq⟩ : ∃ pq, pq = x.pr := ⟨_, rfl⟩
    rw [← hpq] at cP
    have Hpq := hide (show y.pr = pq by rw [hpq]; exact hyp)
    have Hpx := hide hpq
    have hp := Hro.out.p x.pr (List.mem_map.2 ⟨x, List.mem_of_getElem? hrx, rfl⟩)
    rw [← hpq] at hp
    have Hry := hide hry; have Hrx := hide hrx
    have fn1 : IntKind.i64.wrap (100000 - pq) = 100000 - pq := wrapI (by omega)
    have fn2 : IntKind.i64.wrap (100000 - pq + 1) = 100000 - pq + 1 := wrapI (by omega)
    have nz3 : ¬ 100000 - pq + 1 = 0 := by omega
    have ii : (i : Int) < (r : Int) := by omega
    have rby := HBy.out.bel HBc.out
    have HGd := hide (od.own.blockG (g := gd) rfl)
    subst hA2
    clear hrx hry hx' hyp hpq
    go_wp2_with fail
    refine wp_region_held_drew (S := (fun W => Kept (fun b => b ≠ gd) wc W)) (by kernel_rfl) (by (try dsimp only); exact Kept.all _ (Below.refl _ _).drew) (fun hHeld => ?_)
    have hdr : Below wc.heap.size wc (World.drew wc) := (Below.refl _ _).drew
    generalize World.drew wc = Wd16 at hHeld hdr ⊢
    have rby := rby.bel hdr
    have od := od.bel hdr
    have hbc := Below.refl Wd16.heap.size Wd16
    refine wpAnyH_take (i := 0) (oi := ⟨_, _, _, _, _, _⟩) (v := ?_) rfl (by kernel_rfl) (by kernel_rfl) (by kernel_rfl) (fun _ _ _ h => h) (Or.inl ⟨by rfl, ?_⟩) hHeld ?_
    rotate_left
    · (intro w hSw; (try dsimp only at hSw); go_simp; try (with_reducible rfl))
    try simp only [Act.put, List.setIfInBounds_toArray, List.set_cons_zero, List.set_cons_succ]
    refine wpAnyH_take (i := 1) (oi := ⟨_, _, _, _, _, _⟩) (v := ?_) rfl (by kernel_rfl) (by kernel_rfl) (by kernel_rfl) (fun _ _ _ h => h) (Or.inl ⟨by rfl, ?_⟩) hHeld ?_
    rotate_left
    · (intro w hSw; (try dsimp only at hSw); go_simp; try (with_reducible rfl))
    try simp only [Act.put, List.setIfInBounds_toArray, List.set_cons_zero, List.set_cons_succ]
    refine wpAnyH_take (i := 2) (oi := ⟨_, _, _, _, _, _⟩) (v := ?_) rfl (by kernel_rfl) (by kernel_rfl) (by kernel_rfl) (fun _ _ _ h => h) (Or.inl ⟨by rfl, ?_⟩) hHeld ?_
    rotate_left
    · (intro w hSw; (try dsimp only at hSw); go_simp; try (with_reducible rfl))
    try simp only [Act.put, List.setIfInBounds_toArray, List.set_cons_zero, List.set_cons_succ]
    refine wpAnyH_take (i := 3) (oi := ⟨_, _, _, _, _, _⟩) (v := ?_) rfl (by kernel_rfl) (by kernel_rfl) (by kernel_rfl) (fun _ _ _ h => h) (Or.inl ⟨by rfl, ?_⟩) hHeld ?_
    rotate_left
    · (intro w hSw; (try dsimp only at hSw); go_simp; try (with_reducible rfl))
    try simp only [Act.put, List.setIfInBounds_toArray, List.set_cons_zero, List.set_cons_succ]
    refine wpAnyH_take (i := 5) (oi := ⟨_, _, _, _, _, _⟩) (v := ?_) rfl (by kernel_rfl) (by kernel_rfl) (by kernel_rfl) (fun _ _ _ h => h) (Or.inl ⟨by rfl, ?_⟩) hHeld ?_
    rotate_left
    · (intro w hSw; (try dsimp only at hSw); go_simp; try (with_reducible rfl))
    try simp only [Act.put, List.setIfInBounds_toArray, List.set_cons_zero, List.set_cons_succ]
    refine wpAnyH_take (i := 8) (oi := ⟨_, _, _, _, _, _⟩) (v := ?_) rfl (by kernel_rfl) (by kernel_rfl) (by kernel_rfl) (fun _ _ _ h => h) (Or.inl ⟨by rfl, ?_⟩) hHeld ?_
    rotate_left
    · (intro w hSw; (try dsimp only at hSw); go_simp; try (with_reducible rfl))
    try simp only [Act.put, List.setIfInBounds_toArray, List.set_cons_zero, List.set_cons_succ]
    refine wpAnyH_take (i := 9) (oi := ⟨_, _, _, _, _, _⟩) (v := ?_) rfl (by kernel_rfl) (by kernel_rfl) (by kernel_rfl) (fun _ _ _ h => h) (Or.inl ⟨by rfl, ?_⟩) hHeld ?_
    rotate_left
    · (intro w hSw; (try dsimp only at hSw); go_simp; try (with_reducible rfl))
    try simp only [Act.put, List.setIfInBounds_toArray, List.set_cons_zero, List.set_cons_succ]
    refine wpAnyH_take (i := 10) (oi := ⟨_, _, _, _, _, _⟩) (v := ?_) rfl (by kernel_rfl) (by kernel_rfl) (by kernel_rfl) (fun _ _ _ h => h) (Or.inl ⟨by rfl, ?_⟩) hHeld ?_
    rotate_left
    · (intro w hSw; (try dsimp only at hSw); go_simp; try (with_reducible rfl))
    try simp only [Act.put, List.setIfInBounds_toArray, List.set_cons_zero, List.set_cons_succ]
    refine wpAnyH_take (i := 11) (oi := ⟨_, _, _, _, _, _⟩) (v := ?_) rfl (by kernel_rfl) (by kernel_rfl) (by kernel_rfl) (fun _ _ _ h => h) (Or.inl ⟨by rfl, ?_⟩) hHeld ?_
    rotate_left
    · (intro w hSw; (try dsimp only at hSw); go_simp; try (with_reducible rfl))
    try simp only [Act.put, List.setIfInBounds_toArray, List.set_cons_zero, List.set_cons_succ]
    refine wpAnyH_take (i := 12) (oi := ⟨_, _, _, _, _, _⟩) (v := ?_) rfl (by kernel_rfl) (by kernel_rfl) (by kernel_rfl) (fun _ _ _ h => h) (Or.inl ⟨by rfl, ?_⟩) hHeld ?_
    rotate_left
    · (intro w hSw; (try dsimp only at hSw); have cP := (hSw.cell (p := ⟨b2, off2 + i * 3 + 1, none⟩) hb2n hb2l).trans cP; go_simp; try (with_reducible rfl))
    try simp only [Act.put, List.setIfInBounds_toArray, List.set_cons_zero, List.set_cons_succ]
    refine wpAnyH_take (i := 13) (oi := ⟨_, _, _, _, _, _⟩) (v := ?_) rfl (by kernel_rfl) (by kernel_rfl) (by kernel_rfl) (fun _ _ _ h => h) (Or.inl ⟨by rfl, ?_⟩) hHeld ?_
    rotate_left
    · (intro w hSw; (try dsimp only at hSw); go_simp; try (with_reducible rfl))
    try simp only [Act.put, List.setIfInBounds_toArray, List.set_cons_zero, List.set_cons_succ]
    refine wpAnyH_take (i := 14) (oi := ⟨_, _, _, _, _, _⟩) (v := ?_) rfl (by kernel_rfl) (by kernel_rfl) (by kernel_rfl) (fun _ _ _ h => h) (Or.inl ⟨by rfl, ?_⟩) hHeld ?_
    rotate_left
    · (intro w hSw; (try dsimp only at hSw); go_simp; try (with_reducible rfl))
    try simp only [Act.put, List.setIfInBounds_toArray, List.set_cons_zero, List.set_cons_succ]
    refine cut1 (C := fun (m119 : Nat) (Wc16_1 : World) => (m119 ≤ 4294967295) ∧ (IntKind.i64.wrap (m119 : Int) = (m119 : Int)) ∧ (0 ≤ Int.tmod (m119 : Int) (100000 - pq + 1) ∧ Int.tmod (m119 : Int) (100000 - pq + 1) ≤ 100000 - pq) ∧ (IntKind.i64.wrap (pq + Int.tmod (m119 : Int) (100000 - pq + 1)) = pq + Int.tmod (m119 : Int) (100000 - pq + 1)) ∧ Below Wd16.heap.size Wd16 Wc16_1 ∧ Kept (fun b => b ≠ gd) wc Wc16_1) (G := ?_) ?_ ?_
    rotate_left
    · intro hCut
      replace hbc := Below.refl Wd16.heap.size Wd16
      refine wpAnyH_ready (rs := [4, 6]) (by kernel_rfl) (by simp) ?_
      refine AllReadyH.cons (o := ⟨_, _, _, _, _, _⟩) rfl (fun K hK => ?_) ?_
      ·
        obtain ⟨_, z0, _, _, _⟩ := od.dear Hry.out 0
        rw [Hpq.out] at z0
        go_simp
        clear z0
        have hHeldN := hHeld
        refine hK.out _ _ ?_ (fun hHeld2 => ?_)
        · exact hHeldN
        clear hK K hHeldN; have hHeld := hHeld2; clear hHeld2
        try simp only [Act.put, List.setIfInBounds_toArray, List.set_cons_zero, List.set_cons_succ]
        refine wpAnyH_ready (rs := [6]) (by kernel_rfl) (by simp) ?_
        refine AllReadyH.cons (o := ⟨_, _, _, _, _, _⟩) rfl (fun K hK => ?_) AllReadyH.nil
        go_simp
        refine (sat_any A nb cb bys 3 _ Hnb.out H32.out rby hnb2 (by omega) (by omega)).mono ?_
        rintro e V119 ⟨m119, rfl, hm119, hb⟩
        have fm119 : IntKind.i64.wrap (m119 : Int) = (m119 : Int) := wrapI (by omega)
        have hd119 : 0 ≤ Int.tmod (m119 : Int) (100000 - pq + 1) ∧ Int.tmod (m119 : Int) (100000 - pq + 1) ≤ 100000 - pq := ⟨Int.tmod_nonneg _ (by omega), by rw [Int.tmod_eq_emod_of_nonneg (by omega)]; have := Int.emod_lt_of_pos (m119 : Int) (show 0 < 100000 - pq + 1 by omega); omega⟩
        have fw119 : IntKind.i64.wrap (pq + Int.tmod (m119 : Int) (100000 - pq + 1)) = pq + Int.tmod (m119 : Int) (100000 - pq + 1) := wrapI (by omega)
        go_wp2_with fail
        have hHeldN := hHeld.trans (Kept.all _ hb)
        have rby := rby.bel hb
        have od := od.bel hb
        have hbc := hbc.trans (hb.mono hbc.size)
        refine hK.out _ _ ?_ (fun hHeld2 => ?_)
        · exact hHeldN
        clear hK K hHeldN hb; have hHeld := hHeld2; clear hHeld2
        try simp only [Act.put, List.setIfInBounds_toArray, List.set_cons_zero, List.set_cons_succ]
        refine wpAnyH_take (i := 7) (oi := ⟨_, _, _, _, _, _⟩) (v := ?_) rfl (by kernel_rfl) (by kernel_rfl) (by kernel_rfl) (fun _ _ _ h => h) (Or.inl ⟨by rfl, ?_⟩) hHeld ?_
        rotate_left
        · (intro w hSw; (try dsimp only at hSw); go_simp; try (with_reducible rfl))
        try simp only [Act.put, List.setIfInBounds_toArray, List.set_cons_zero, List.set_cons_succ]
        refine wpAnyH_take (i := 15) (oi := ⟨_, _, _, _, _, _⟩) (v := ?_) rfl (by kernel_rfl) (by kernel_rfl) (by kernel_rfl) (fun _ _ _ h => h) (Or.inl ⟨by rfl, ?_⟩) hHeld ?_
        rotate_left
        · (intro w hSw; (try dsimp only at hSw); go_simp; try (with_reducible rfl))
        try simp only [Act.put, List.setIfInBounds_toArray, List.set_cons_zero, List.set_cons_succ]
        refine wpAnyH_take (i := 16) (oi := ⟨_, _, _, _, _, _⟩) (v := ?_) rfl (by kernel_rfl) (by kernel_rfl) (by kernel_rfl) (fun _ _ _ h => h) (Or.inl ⟨by rfl, ?_⟩) hHeld ?_
        rotate_left
        · (intro w hSw; (try dsimp only at hSw); go_simp; try (with_reducible rfl))
        try simp only [Act.put, List.setIfInBounds_toArray, List.set_cons_zero, List.set_cons_succ]
        refine wpAnyH_take (i := 17) (oi := ⟨_, _, _, _, _, _⟩) (v := ?_) rfl (by kernel_rfl) (by kernel_rfl) (by kernel_rfl) (fun _ _ _ h => h) (Or.inl ⟨by rfl, ?_⟩) hHeld ?_
        rotate_left
        · (intro w hSw; (try dsimp only at hSw); go_simp; try (with_reducible rfl))
        try simp only [Act.put, List.setIfInBounds_toArray, List.set_cons_zero, List.set_cons_succ]
        refine wpAnyH_take (i := 18) (oi := ⟨_, _, _, _, _, _⟩) (v := ?_) rfl (by kernel_rfl) (by kernel_rfl) (by kernel_rfl) (fun _ _ _ h => h) (Or.inl ⟨by rfl, ?_⟩) hHeld ?_
        rotate_left
        · (intro w hSw; (try dsimp only at hSw); go_simp; try (with_reducible rfl))
        try simp only [Act.put, List.setIfInBounds_toArray, List.set_cons_zero, List.set_cons_succ]
        exact hCut m119 V119 ⟨hm119, fm119, hd119, fw119, hbc, hHeld⟩
      refine AllReadyH.cons (o := ⟨_, _, _, _, _, _⟩) rfl (fun K hK => ?_) AllReadyH.nil
      go_simp
      refine (sat_any A nb cb bys 3 _ Hnb.out H32.out rby hnb2 (by omega) (by omega)).mono ?_
      rintro e V119 ⟨m119, rfl, hm119, hb⟩
      have fm119 : IntKind.i64.wrap (m119 : Int) = (m119 : Int) := wrapI (by omega)
      have hd119 : 0 ≤ Int.tmod (m119 : Int) (100000 - pq + 1) ∧ Int.tmod (m119 : Int) (100000 - pq + 1) ≤ 100000 - pq := ⟨Int.tmod_nonneg _ (by omega), by rw [Int.tmod_eq_emod_of_nonneg (by omega)]; have := Int.emod_lt_of_pos (m119 : Int) (show 0 < 100000 - pq + 1 by omega); omega⟩
      have fw119 : IntKind.i64.wrap (pq + Int.tmod (m119 : Int) (100000 - pq + 1)) = pq + Int.tmod (m119 : Int) (100000 - pq + 1) := wrapI (by omega)
      go_wp2_with fail
      have hHeldN := hHeld.trans (Kept.all _ hb)
      have rby := rby.bel hb
      have od := od.bel hb
      have hbc := hbc.trans (hb.mono hbc.size)
      refine hK.out _ _ ?_ (fun hHeld2 => ?_)
      · exact hHeldN
      clear hK K hHeldN hb; have hHeld := hHeld2; clear hHeld2
      try simp only [Act.put, List.setIfInBounds_toArray, List.set_cons_zero, List.set_cons_succ]
      refine wpAnyH_take (i := 7) (oi := ⟨_, _, _, _, _, _⟩) (v := ?_) rfl (by kernel_rfl) (by kernel_rfl) (by kernel_rfl) (fun _ _ _ h => h) (Or.inl ⟨by rfl, ?_⟩) hHeld ?_
      rotate_left
      · (intro w hSw; (try dsimp only at hSw); go_simp; try (with_reducible rfl))
      try simp only [Act.put, List.setIfInBounds_toArray, List.set_cons_zero, List.set_cons_succ]
      refine wpAnyH_take (i := 15) (oi := ⟨_, _, _, _, _, _⟩) (v := ?_) rfl (by kernel_rfl) (by kernel_rfl) (by kernel_rfl) (fun _ _ _ h => h) (Or.inl ⟨by rfl, ?_⟩) hHeld ?_
      rotate_left
      · (intro w hSw; (try dsimp only at hSw); go_simp; try (with_reducible rfl))
      try simp only [Act.put, List.setIfInBounds_toArray, List.set_cons_zero, List.set_cons_succ]
      refine wpAnyH_ready (rs := [4]) (by kernel_rfl) (by simp) ?_
      refine AllReadyH.cons (o := ⟨_, _, _, _, _, _⟩) rfl (fun K hK => ?_) AllReadyH.nil
      obtain ⟨_, z0, _, _, _⟩ := od.dear Hry.out 0
      rw [Hpq.out] at z0
      go_simp
      clear z0
      have hHeldN := hHeld
      refine hK.out _ _ ?_ (fun hHeld2 => ?_)
      · exact hHeldN
      clear hK K hHeldN; have hHeld := hHeld2; clear hHeld2
      try simp only [Act.put, List.setIfInBounds_toArray, List.set_cons_zero, List.set_cons_succ]
      refine wpAnyH_take (i := 16) (oi := ⟨_, _, _, _, _, _⟩) (v := ?_) rfl (by kernel_rfl) (by kernel_rfl) (by kernel_rfl) (fun _ _ _ h => h) (Or.inl ⟨by rfl, ?_⟩) hHeld ?_
      rotate_left
      · (intro w hSw; (try dsimp only at hSw); go_simp; try (with_reducible rfl))
      try simp only [Act.put, List.setIfInBounds_toArray, List.set_cons_zero, List.set_cons_succ]
      refine wpAnyH_take (i := 17) (oi := ⟨_, _, _, _, _, _⟩) (v := ?_) rfl (by kernel_rfl) (by kernel_rfl) (by kernel_rfl) (fun _ _ _ h => h) (Or.inl ⟨by rfl, ?_⟩) hHeld ?_
      rotate_left
      · (intro w hSw; (try dsimp only at hSw); go_simp; try (with_reducible rfl))
      try simp only [Act.put, List.setIfInBounds_toArray, List.set_cons_zero, List.set_cons_succ]
      refine wpAnyH_take (i := 18) (oi := ⟨_, _, _, _, _, _⟩) (v := ?_) rfl (by kernel_rfl) (by kernel_rfl) (by kernel_rfl) (fun _ _ _ h => h) (Or.inl ⟨by rfl, ?_⟩) hHeld ?_
      rotate_left
      · (intro w hSw; (try dsimp only at hSw); go_simp; try (with_reducible rfl))
      try simp only [Act.put, List.setIfInBounds_toArray, List.set_cons_zero, List.set_cons_succ]
      exact hCut m119 V119 ⟨hm119, fm119, hd119, fw119, hbc, hHeld⟩
    intro m119 Wc16_1 ⟨hm119, fm119, hd119, fw119, hbN, hHeldN⟩
    have rby := rby.bel hbN
    have od := od.bel hbN
    have hbc := hbc.trans (hbN.mono hbc.size); clear hHeld hbN; have hHeld := hHeldN; clear hHeldN
    refine wpAnyH_ready (rs := [19]) (by kernel_rfl) (by simp) ?_
    refine AllReadyH.cons (o := ⟨_, _, _, _, _, _⟩) rfl (fun K hK => ?_) AllReadyH.nil
    obtain ⟨hset2, z0, f0, _, _⟩ := od.dear Hry.out (pq + Int.tmod (m119 : Int) (100000 - pq + 1))
    rw [Hpq.out] at z0
    have hHeldG := hHeld
    go_simp
    clear z0 f0
    refine hK.out _ _ ?_ (fun _ => ?_)
    · (try dsimp only); exact hHeld.trans (Kept.setCell _ ⟨gd, i * 3 + 1, none⟩ _)
    clear hK K hHeld
    try simp only [Act.put, List.setIfInBounds_toArray, List.set_cons_zero, List.set_cons_succ]
    refine wpAnyH_done (by kernel_rfl) ?_ _
    obtain ⟨dp, hdp⟩ : ∃ dp, dp = Int.tmod (m119 : Int) (100000 - pq + 1) := ⟨_, rfl⟩
    rw [← hdp] at hset2 hd119 ⊢
    obtain ⟨wd, hwd⟩ : ∃ wd, Hid (Wc16_1.setCell ⟨gd, i * 3 + 1, none⟩ (.int .i64 (pq + dp)) = wd) := ⟨_, hide rfl⟩
    have kd := hHeldG.trans (Kept.setCell Wc16_1 ⟨gd, i * 3 + 1, none⟩ (.int .i64 (pq + dp)))
    rw [hwd.out] at hset2 kd ⊢
    have HBd := hide (HBc.out.trans (kd.below (B := w.heap.size) (fun b hb => by have := HBa.out.size; have := HGd.out.1; show b ≠ gd; omega) HBc.out.size))
    have RD := hide (hset2.dearAt Hsd.out Hry.out (fun r hr => (HR.out.row r hr).2.1))
    have on := HSc.out.keptG kd (fun g hg => by
      have e : gn = g := Option.some.inj hg
      have := HGa.out.2; have := HGd.out.1; show g ≠ gd; omega)
    obtain ⟨A', c', ea, rn⟩ := on.rdn m (by rw [List.length_set]; exact Hm.out.symm)
    injection ea with ea1 _ ea2
    subst ea1
    have RN := hide rn
    have hnd : 0 ≤ dp ∧ dp ≤ 100000 - pq := hd119
    have Hrn : Hid (RentsOk (ns.set k (nk + dk)) rs) := hide ⟨by rw [List.length_set]; exact Hro.out.nl, Hro.out.rl, fun z hz => by
      rcases List.mem_or_eq_of_mem_set hz with h | h
      · exact Hro.out.n z h
      · have := Hdk.out; omega, by rw [List.length_set]; exact Hro.out.rt, Hro.out.p⟩
    have Hen : Hid (Easier ns rs (ns.set k (nk + dk)) rs) := hide (easier_need (by rw [List.length_set]) (fun j => by
      have := Hdk.out
      rw [getD_set hkl]
      by_cases hj : j = k
      · rw [if_pos hj, hj, hgd]; omega
      · rw [if_neg hj]; exact Int.le_refl _))
    have Hdr := hide (dearer_set (p := pq + dp) Hrx.out (by rw [← Hpx.out]; omega))
    have Hrd := hide (Hdr.out.ok Hro.out (fun j hj => by
      unfold prAt
      by_cases hj2 : j = i
      · rw [hj2, List.getElem?_set_self hrl]; show pq + dp ≤ 100000; omega
      · rw [List.getElem?_set_ne (fun e => hj2 e.symm)]; exact (Hro.out.pr_bd j).2))
    have Hpd := hide (planF_twin (strips_dear Hsd.out Hrx.out Hry.out (pq + dp)) ns)
    obtain ⟨gE, hG⟩ : ∃ z, z = (planF (ns.set k (nk + dk)) rs).2.2 := ⟨_, rfl⟩
    obtain ⟨gC, hGC⟩ : ∃ z, z = (planF (ns.set k (nk + dk)) rs).2.1 := ⟨_, rfl⟩
    obtain ⟨hE, hH⟩ : ∃ z, z = (planF ns (rd.set i { y with pr := pq + dp })).2.2 := ⟨_, rfl⟩
    obtain ⟨hC, hHC⟩ : ∃ z, z = (planF ns (rd.set i { y with pr := pq + dp })).2.1 := ⟨_, rfl⟩
    have G1 : gE = 0 ∨ gE = 63 := by rw [hG]; rcases plan_ok_iff Hrn.out with h | h <;> simp [h.1]
    have G2 : Hid (gE = 0 → 63 = (0 : Int) ∧ eC ≤ gC) := hide fun h => by
      have h1 := plan_easier Hro.out Hrn.out Hen.out (by rw [← hG]; exact h)
      rw [← HE.out] at h1
      rw [hGC, HC.out]
      exact h1
    have G3 : hE = 63 := by rw [hH, Hpd.out, HE.out]; exact Hdr.out.same Hro.out Hrd.out
    have G4 : Hid (hE = 0 → eC ≤ hC) := hide fun h => by
      rw [hHC, HC.out, Hpd.out]
      exact (plan_easier Hro.out Hrd.out (Hdr.out.easier Hro.out.rl) (by rw [← Hpd.out, ← hH]; exact h)).2
    have HG := hide hG; have HGC := hide hGC; have HH := hide hH; have HHC := hide hHC
    clear hset2 kd hHeldG fw119 fm119 hdp hd119 hnd od fn1 fn2 nz3 cP hb2l hb2n hbc on rn hG hGC hH hHC rby hp hgd hnk
    have G3' := hide G3; have G1' := hide G1; clear G3 G1
    go_wp2_with fail
    refine (plan_any (some ⟨gn, 0, none⟩) (some ⟨b2, off2, none⟩) m _ r _ (ns.set k (nk + dk)) rs wd RN.out (by rw [List.length_set]; exact Hm.out) hm2 (HR.out.bel HBd.out) hr2).mono ?_
    rintro e we ⟨vC, rfl, _, hbe⟩
    rw [← HG.out, ← HGC.out]
    have HBe := hide (HBd.out.trans (hbe.mono HBd.out.size))
    have Hde := hide hbe
    clear hbe
    go_wp2_with fail
    refine (plan_any (some ⟨b1, off1, none⟩) (some ⟨gd, 0, none⟩) m _ r _ ns (rd.set i { y with pr := pq + dp }) we (HN.out.bel HBe.out) Hm.out hm2 (RD.out.bel Hde.out) hr2).mono ?_
    rintro e wf ⟨vD, rfl, _, hbf⟩
    rw [← HH.out, ← HHC.out]
    have HBf := hide (HBe.out.trans (hbf.mono HBe.out.size))
    clear hbf HG HGC HH HHC
    have G3 := G3'.out; have G1 := G1'.out
    clear G3' G1'
    have g0 : gE = 63 := by
      rcases G1 with g0 | g0
      · have := (G2.out g0).1; omega
      · exact g0
    subst G3 g0
    go_wp2_with fail
    go_ret
    exact ⟨rfl, HBf.out⟩
set_option maxRecDepth 100000 in
theorem saltRents_lifted (os : Os) (started : os.Started) (H : Type) (enc : TypeId × Value → H) :
    ReturnsInHanded {} Try.checked os 11 .any (Rows.saltRentsSpec.pre6 enc Try.prog Try.f11 Rows.saltRentsRow.domain false) (Rows.saltRentsSpec.post enc Try.prog Try.f11 false true false false) := by
  refine law_lifted_sized os started H enc (s := Rows.saltRentsSpec) Try.func11 (by kernel_rfl) ?_ rfl Try.underlying4 rfl (of_decide_eq_true (by kernel_rfl))
    (ChangeSpec.witness6 (enc := enc) (C := Try.checked) false ⟨#[], #[.slice none 0 0, .slice none 0 0, .agg #[.int .i64 0, .int .i64 0, .slice none 0 0], .slice none 0 0], []⟩ 8 (by kernel_rfl) (by kernel_rfl) (by kernel_rfl) (by kernel_rfl)) ?_
  · intro ds hds
    match ds, hds with
    | [a, b, c, d], _ => rfl
  · intro W base args ds ps hval hA hlt hsz
    rw [Try.params11] at hA hval hsz
    obtain ⟨v0, v1, v2, v3, d0, d1, d2, d3, p0, p1, p2, p3, rfl, rfl, rfl, h0, h1, h2, h3⟩ := trodAll_four hA
    obtain ⟨A1, m, c1, ns, rfl, hm, hm2, hN, _⟩ := open_sl shape_int Try.underlying41 cells_int icell_len (by omega) (hval 0 _ v0 rfl rfl) h0
    obtain ⟨A2, r, c2, rs, rfl, hr2, hR, _⟩ := open_rents (hval 1 _ v1 rfl rfl) h1
    obtain ⟨q, rfl, hq⟩ := open_valW (shape_rent W) Try.underlying89 (hval 2 _ v2 rfl rfl) h2
    obtain ⟨A, nb, cb, bys, rfl, hnb, hnb2, hby, h32⟩ := open_sl shape_u32 Try.underlying68 cells_u32 u32cell_len (by omega) (hval 3 _ v3 rfl rfl) h3
    exact srents_walk A1 A2 A m c1 r c2 nb cb ns rs q bys W hN hm hm2 hR hr2 (slice_sized (t := 54) Try.underlying54 (by kernel_rfl) hsz (j := 1) rfl rfl h1) (rents_sized h1 hR (all_weights hsz (j := 1) rfl rfl)) ⟨hq.1, hq.2.1, hq.2.2.1⟩ hnb hnb2 hby h32

theorem saltRents_holds : Rows.SaltRentsSaid :=
  OpenClaim.holds_of_wide 11 Try.f11 rfl rfl rfl rfl rfl rfl rfl ⟨rfl, rfl, rfl, rfl, rfl⟩ rfl rfl rfl rfl rfl (by kernel_rfl) Try.func11 (by kernel_rfl)
    (of_decide_eq_true (by kernel_rfl)) (by unfold Func.isWrapper; rw [if_neg (of_decide_eq_false (by kernel_rfl))]; exact ⟨rfl, rfl⟩)
    (fun os started H enc _ => saltRents_lifted os started H enc)
#print axioms saltRents_holds
end Go.Proofs.Ytmbhnjpaieimbaa
