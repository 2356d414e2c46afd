/- GalleryTrue: whatever flows within bounds, each flow lies in its printed span, and what is lost is named. The law returns true for every gallery, flow in, shafts that are measured and numbers that say what is so. No conditions. -/
import Derived.Test.YtkmocikcohhdoaaJA
import Derived.Test.YtkmocikcohhdoaaJ1
set_option linter.unusedVariables false
set_option linter.unusedSimpArgs false
namespace Go.Proofs.Ytkmocikcohhdoaa
open Go.RowKit Go.Shelf Go.WideShapes Go.ChangeShapes Go.ChangeAt
theorem getD_some {α : Type} {xs : List α} {k : Nat} {x y : α} (h : xs[k]? = some x) : xs.getD k y = x := by rw [List.getD_eq_getElem?_getD, h]; rfl
set_option maxHeartbeats 40000000 in
set_option maxRecDepth 100000 in
theorem true_walk (A S B : Option Addr) (g : List Rc) (s : Sp) (sh bys : List Nat) (n c m d nb cb : Nat) (w : World) (hn : n = g.length) (hm : n ≤ 9223372036854775807) (hx : Rd w w.heap.size Rc.cells A g)
    (hms : m = sh.length) (hm2 : m ≤ 9223372036854775807) (hs : Rd w w.heap.size u8cell S sh) (h8 : ∀ x ∈ sh, x ≤ 255) (hnb : nb = bys.length) (hnb2 : nb ≤ 9223372036854775807) (hby : Rd w w.heap.size u32cell B bys) (h32 : ∀ x ∈ bys, x ≤ 4294967295) :
    Calls Try.prog 7 #[.slice A n c, .agg #[.int .i64 s.lo, .int .i64 s.hi], .slice S m d, .slice B nb cb] w fun e w' => e = .returned (.bool true) ∧ Below w.heap.size w w' := by
  obtain ⟨b5, w1, e5, ew1, hx5, hb1, hz1⟩ := mk_bx w #[.int .i64 s.lo, .int .i64 s.hi] 24
  have Hn := hide hn; have Hm := hide hms; have Hnb := hide hnb; have H8 := hide h8; have H32 := hide h32
  have rg := hx.bel hb1; have rsh := hs.bel hb1; have rby := hby.bel hb1
  clear hn hms hnb h8 h32 hx hs hby hz1
  go_enter Try.func7, Try.ntmps7
  go_wp2_with fail
  rw [ew1.out, e5.out]
  refine (galive_any _).mono ?_
  rintro e w2 ⟨rfl, hb2⟩
  have hB2 := hb1.trans (hb2.mono hb1.size)
  obtain ⟨q0, q1, _, _⟩ := (hx5.bel hb2).w2
  replace rg := rg.bel hb2; replace rsh := rsh.bel hb2; replace rby := rby.bel hb2
  go_wp2_with fail
  refine (gready_any A g s n c w2 Hn.out hm rg).mono ?_
  rintro e w3 ⟨rfl, hb3⟩
  have hB3 := hB2.trans (hb3.mono hB2.size)
  cases hok : gOk g && Sp.ok 0 1000000 s
  · clear hok
    go_wp2_with fail
    go_ret
    exact ⟨rfl, hB3⟩
  obtain ⟨hg, hso⟩ := (Bool.and_eq_true _ _).mp hok
  have hn12 : n ≤ 12 := by
    have h1 := hg
    unfold gOk inB at h1
    simp only [Bool.and_eq_true, decide_eq_true_eq] at h1
    rw [Hn.out]; omega
  have hn20 : n ≤ 20 := by omega
  have hs1 := okS_fine hso
  have Hg := hide hg; have Hso := hide hso
  have hx53 := (hx5.bel hb2).bel hb3
  obtain ⟨q0, q1, _, _⟩ := hx53.w2
  replace rg := rg.bel hb3; replace rsh := rsh.bel hb3; replace rby := rby.bel hb3
  clear hok hg hso
  go_wp2_with fail
  refine (runs_any A B g s bys n c nb cb w3 Hn.out hn20 rg Hnb.out hnb2 rby H32.out (gOk_fine Hg.out) hs1).mono ?_
  rintro e w6 ⟨A1, c1, A2, c2, A3, c3, fs, ls, gs, rfl, hRP, r1, r2, r3, hb6⟩
  have HRP := hide hRP
  have Hx5 := hide (hx53.bel hb6)
  have hB := hB3.trans (hb6.mono hB3.size)
  replace rg := rg.bel hb6; replace rsh := rsh.bel hb6; replace rby := rby.bel hb6
  clear hRP hb1 hb2 hb3 hb6 hB2 hB3 q0 q1 hx5 hx53
  go_wp2_with fail
  refine wp_region_held_drew (S := (fun W => Below w6.heap.size w6 W)) (by kernel_rfl) (by (try dsimp only); exact (Below.refl _ _).drew) (fun hHeld => ?_)
  generalize World.drew w6 = Wd7 at hHeld ⊢
  have rg := rg.bel hHeld
  have rsh := rsh.bel hHeld
  have rby := rby.bel hHeld
  have r1 := r1.bel hHeld
  have r2 := r2.bel hHeld
  have r3 := r3.bel hHeld
  have hbc := Below.refl Wd7.heap.size Wd7
  refine wpAnyH_take (i := 0) (oi := ⟨_, _, _, _, _, _⟩) (v := ?_) rfl (by kernel_rfl) (by kernel_rfl) (by kernel_rfl) (fun _ _ _ h => h) (Or.inl ⟨by rfl, ?_⟩) hHeld ?_
  rotate_left
  · (intro w hSw; (try dsimp only at hSw); go_simp; try (with_reducible rfl))
  try simp only [Act.put, List.setIfInBounds_toArray, List.set_cons_zero, List.set_cons_succ]
  refine wpAnyH_take (i := 1) (oi := ⟨_, _, _, _, _, _⟩) (v := ?_) rfl (by kernel_rfl) (by kernel_rfl) (by kernel_rfl) (fun _ _ _ h => h) (Or.inl ⟨by rfl, ?_⟩) hHeld ?_
  rotate_left
  · (intro w hSw; (try dsimp only at hSw); obtain ⟨q0, q1, _, _⟩ := (Hx5.out.bel hSw).w2; go_simp; try (with_reducible rfl))
  try simp only [Act.put, List.setIfInBounds_toArray, List.set_cons_zero, List.set_cons_succ]
  refine wpAnyH_take (i := 2) (oi := ⟨_, _, _, _, _, _⟩) (v := ?_) rfl (by kernel_rfl) (by kernel_rfl) (by kernel_rfl) (fun _ _ _ h => h) (Or.inl ⟨by rfl, ?_⟩) hHeld ?_
  rotate_left
  · (intro w hSw; (try dsimp only at hSw); go_simp; try (with_reducible rfl))
  try simp only [Act.put, List.setIfInBounds_toArray, List.set_cons_zero, List.set_cons_succ]
  refine wpAnyH_take (i := 3) (oi := ⟨_, _, _, _, _, _⟩) (v := ?_) rfl (by kernel_rfl) (by kernel_rfl) (by kernel_rfl) (fun _ _ _ h => h) (Or.inl ⟨by rfl, ?_⟩) hHeld ?_
  rotate_left
  · (intro w hSw; (try dsimp only at hSw); go_simp; try (with_reducible rfl))
  try simp only [Act.put, List.setIfInBounds_toArray, List.set_cons_zero, List.set_cons_succ]
  refine wpAnyH_take (i := 4) (oi := ⟨_, _, _, _, _, _⟩) (v := ?_) rfl (by kernel_rfl) (by kernel_rfl) (by kernel_rfl) (fun _ _ _ h => h) (Or.inl ⟨by rfl, ?_⟩) hHeld ?_
  rotate_left
  · (intro w hSw; (try dsimp only at hSw); go_simp; try (with_reducible rfl))
  try simp only [Act.put, List.setIfInBounds_toArray, List.set_cons_zero, List.set_cons_succ]
  refine wpAnyH_ready (rs := [5]) (by kernel_rfl) (by simp) ?_
  refine AllReadyH.cons (o := ⟨_, _, _, _, _, _⟩) rfl (fun K hK => ?_) AllReadyH.nil
  go_simp
  refine (seen_any A1 S B fs sh bys n c1 m d nb cb _ HRP.out.lf.symm hn20 (r1.more (Nat.le_refl _)) (by intro j hj; exact HRP.out.bd j hj) Hm.out hm2 rsh H8.out Hnb.out hnb2 rby H32.out).mono ?_
  rintro e V42 ⟨Al, cl, l, rfl, hl30, hlsh, hSP, rl, hb⟩
  go_wp2_with fail
  have hHeldN := hHeld.trans (hb.mono hHeld.size)
  have rg := rg.bel hb
  have rsh := rsh.bel hb
  have rby := rby.bel hb
  have r1 := r1.bel hb
  have r2 := r2.bel hb
  have r3 := r3.bel hb
  have hbc := hbc.trans (hb.mono hbc.size)
  refine hK.out _ _ ?_ (fun hHeld2 => ?_)
  · exact hHeldN
  clear hK K hHeld hHeldN hb; have hHeld := hHeld2; clear hHeld2
  try simp only [Act.put, List.setIfInBounds_toArray, List.set_cons_zero, List.set_cons_succ]
  refine wpAnyH_ready (rs := [6]) (by kernel_rfl) (by simp) ?_
  refine AllReadyH.cons (o := ⟨_, _, _, _, _, _⟩) rfl (fun K hK => ?_) AllReadyH.nil
  go_simp
  refine (flows_any A Al g s l n c l.length cl _ Hn.out hm rg rfl (by omega) rl).mono ?_
  rintro e V43 ⟨v1, v2, rfl, o1, o2, hb⟩
  go_wp2_with fail
  have hHeldN := hHeld.trans (hb.mono hHeld.size)
  have rg := rg.bel hb
  have rsh := rsh.bel hb
  have rby := rby.bel hb
  have r1 := r1.bel hb
  have r2 := r2.bel hb
  have r3 := r3.bel hb
  have rl := rl.bel hb
  have hbc := hbc.trans (hb.mono hbc.size)
  refine hK.out _ _ ?_ (fun hHeld2 => ?_)
  · exact hHeldN
  clear hK K hHeld hHeldN hb; have hHeld := hHeld2; clear hHeld2
  try simp only [Act.put, List.setIfInBounds_toArray, List.set_cons_zero, List.set_cons_succ]
  refine wpAnyH_take (i := 7) (oi := ⟨_, _, _, _, _, _⟩) (v := ?_) rfl (by kernel_rfl) (by kernel_rfl) (by kernel_rfl) (fun _ _ _ h => h) (Or.inl ⟨by rfl, ?_⟩) hHeld ?_
  rotate_left
  · (intro w hSw; (try dsimp only at hSw); go_simp; try (with_reducible rfl))
  try simp only [Act.put, List.setIfInBounds_toArray, List.set_cons_zero, List.set_cons_succ]
  refine wpAnyH_take (i := 8) (oi := ⟨_, _, _, _, _, _⟩) (v := ?_) rfl (by kernel_rfl) (by kernel_rfl) (by kernel_rfl) (fun _ _ _ h => h) (Or.inl ⟨by rfl, ?_⟩) hHeld ?_
  rotate_left
  · (intro w hSw; (try dsimp only at hSw); go_simp; try (with_reducible rfl))
  try simp only [Act.put, List.setIfInBounds_toArray, List.set_cons_zero, List.set_cons_succ]
  refine wpAnyH_take (i := 9) (oi := ⟨_, _, _, _, _, _⟩) (v := ?_) rfl (by kernel_rfl) (by kernel_rfl) (by kernel_rfl) (fun _ _ _ h => h) (Or.inl ⟨by rfl, ?_⟩) hHeld ?_
  rotate_left
  · (intro w hSw; (try dsimp only at hSw); go_simp; try (with_reducible rfl))
  try simp only [Act.put, List.setIfInBounds_toArray, List.set_cons_zero, List.set_cons_succ]
  refine wpAnyH_take (i := 10) (oi := ⟨_, _, _, _, _, _⟩) (v := ?_) rfl (by kernel_rfl) (by kernel_rfl) (by kernel_rfl) (fun _ _ _ h => h) (Or.inl ⟨by rfl, ?_⟩) hHeld ?_
  rotate_left
  · (intro w hSw; (try dsimp only at hSw); go_simp; try (with_reducible rfl))
  try simp only [Act.put, List.setIfInBounds_toArray, List.set_cons_zero, List.set_cons_succ]
  refine wpAnyH_take (i := 11) (oi := ⟨_, _, _, _, _, _⟩) (v := ?_) rfl (by kernel_rfl) (by kernel_rfl) (by kernel_rfl) (fun _ _ _ h => h) (Or.inl ⟨by rfl, ?_⟩) hHeld ?_
  rotate_left
  · (intro w hSw; (try dsimp only at hSw); go_simp; try (with_reducible rfl))
  try simp only [Act.put, List.setIfInBounds_toArray, List.set_cons_zero, List.set_cons_succ]
  refine wpAnyH_take (i := 12) (oi := ⟨_, _, _, _, _, _⟩) (v := ?_) rfl (by kernel_rfl) (by kernel_rfl) (by kernel_rfl) (fun _ _ _ h => h) (Or.inl ⟨by rfl, ?_⟩) hHeld ?_
  rotate_left
  · (intro w hSw; (try dsimp only at hSw); go_simp; try (with_reducible rfl))
  try simp only [Act.put, List.setIfInBounds_toArray, List.set_cons_zero, List.set_cons_succ]
  refine wpAnyH_take (i := 13) (oi := ⟨_, _, _, _, _, _⟩) (v := ?_) rfl (by kernel_rfl) (by kernel_rfl) (by kernel_rfl) (fun _ _ _ h => h) (Or.inl ⟨by rfl, ?_⟩) hHeld ?_
  rotate_left
  · (intro w hSw; (try dsimp only at hSw); go_simp; try (with_reducible rfl))
  try simp only [Act.put, List.setIfInBounds_toArray, List.set_cons_zero, List.set_cons_succ]
  refine wpAnyH_done (by kernel_rfl) ?_ _
  obtain ⟨F, hF1, hF2, hF3, hF4, hF5, hF6⟩ := run_told Hg.out Hso.out HRP.out Hn.out hl30 hSP
  rw [hF2]
  rw [hF3] at o1
  rw [hF4] at o2
  obtain ⟨Af, cf, rfl, rf⟩ := o1.rdn (n + 1) hF5
  obtain ⟨Ap, cp, rfl, rp⟩ := o2.rdn n (by rw [lostS_len, Hn.out])
  replace hB := hB.trans (hHeld.mono hB.size)
  have HF5 := hide hF5; have HF6 := hide hF6
  have Hrf := hide rf; have Hrp := hide rp; have Hr1 := hide r1; have Hr2 := hide r2; have Hr3 := hide r3
  obtain ⟨w7, rfl⟩ : ∃ w7, w7 = V43 := ⟨V43, rfl⟩
  clear o1 o2 hF1 hF2 hF3 hF4 hF5 hF6 hHeld hbc rl rg rsh rby r1 r2 r3 rf rp hSP hl30 hlsh Hx5
  obtain ⟨b1, o1, f0, rfl, hb1, hf0, c0⟩ := Hr1.out.int (i := 0) (by rw [HRP.out.lf]; omega)
  have hn1 : (0 : Int) < (n : Int) + 1 := by omega
  have Hf0 : Hid (f0 = fs.getD 0 0) := hide (getD_some hf0).symm
  clear hf0
  rw [Nat.add_zero] at c0
  go_wp2_with fail
  go_loopw [16, 69] (fun a i wr => ∃ k : Nat, a = .int .i64 (fs.getD k 0) ∧ i = .int .i64 k ∧ k ≤ n ∧ Below w7.heap.size w7 wr) (fun _ i _ => n - (intOf i).toNat)
  case atStart => exact ⟨0, by rw [Hf0.out], rfl, by omega, Below.refl _ _⟩
  case round =>
    clear c0
    obtain ⟨k, rfl, rfl, hk, hb⟩ := hrel
    have hbk := HRP.out.bd k hk
    by_cases hlt : k < n
    · obtain ⟨r, hrk⟩ : ∃ r, g[k]? = some r := ⟨_, List.getElem?_eq_getElem (by rw [← Hn.out]; exact hlt)⟩
      obtain ⟨f, hfk⟩ : ∃ f, F[k]? = some f := ⟨_, List.getElem?_eq_getElem (by rw [HF5.out]; omega)⟩
      have hin := HF6.out k hk
      rw [getD_some hfk] at hin
      obtain ⟨dd, hd1, hd2, hd3⟩ := run_lost Hg.out HRP.out Hn.out hrk hfk hin
      obtain ⟨c', l', u1, u2, u3, u4, u5⟩ := HRP.out.step k r hlt hrk
      have hbk1 := HRP.out.bd (k + 1) (by omega)
      have hgb : 0 ≤ gs.getD k 0 ∧ gs.getD k 0 ≤ 1000000 := by
        obtain ⟨_, _, g7, g8, g9⟩ := gOk_fine Hg.out r (List.mem_of_getElem? hrk)
        unfold inS at u3; omega
      obtain ⟨b2, p2, x, rfl, hb2, hxk, c2⟩ := (Hr2.out.below hb).int (i := k) (by rw [HRP.out.ll]; exact hlt)
      obtain ⟨b3, p3, y, rfl, hb3, hyk, c3'⟩ := (Hr3.out.below hb).int (i := k) (by rw [HRP.out.lg]; exact hlt)
      obtain ⟨b4, p4, lo, hi, rfl, hb4, hpk, c4, c5⟩ := (Hrp.out.below hb).sp (i := k) (by rw [lostS_len, ← Hn.out]; exact hlt)
      rw [hpk] at hd1
      injection hd1 with hd1
      subst hd1
      have ex := getD_some (y := 0) hxk
      have ey := getD_some (y := 0) hyk
      rw [ex] at hd2 hd3 u5
      rw [ey] at u5 hgb
      unfold inS at hd2
      dsimp only at hd2
      obtain ⟨sm, hsm⟩ : ∃ sm, sm = fs.getD k 0 := ⟨_, rfl⟩
      obtain ⟨sm1, hsm1⟩ : ∃ sm1, sm1 = fs.getD (k + 1) 0 := ⟨_, rfl⟩
      rw [← hsm] at hbk u5 ⊢
      rw [← hsm1] at hbk1 u5
      have t1 : ¬ x < lo := by omega
      have t2 : ¬ hi < x := by omega
      have t3 : ¬ x < 0 := by omega
      have t4 : decide (x < lo) = false := decide_eq_false t1
      have t5 : decide (hi < x) = false := decide_eq_false t2
      have t6 : decide (x < 0) = false := decide_eq_false t3
      have k1 : IntKind.i64.wrap (y - x) = y - x := wrapI (by omega)
      have k2 : IntKind.i64.wrap (sm + (y - x)) = sm1 := by rw [wrapI (by omega)]; omega
      have ikn : (k : Int) < (n : Int) := by omega
      have Hb := hide hb; have Hsm1 := hide hsm1
      clear hrk hfk hin hd2 hd3 u1 u2 u3 u4 u5 hgb hxk hyk hpk ex ey hsm hsm1 hb t1 t2 t3
      go_wp2_with fail
      go_quiet (fail)
      go_wp2_with fail
      go_quiet (fail)
      go_wp2_with fail
      exact ⟨⟨k + 1, by rw [Hsm1.out], by go_num, by omega, below_drewN Hb.out _⟩, by simp [intOf]; omega⟩
    · obtain rfl : n = k := by omega
      obtain ⟨wl, rfl⟩ : ∃ wl, wl = wr := ⟨wr, rfl⟩
      have Hbl := hide hb
      obtain ⟨sm, hsm⟩ : ∃ sm, sm = fs.getD n 0 := ⟨_, rfl⟩
      rw [← hsm]
      have Hsm := hide hsm
      clear hb hsm
      go_wp2_with fail
      go_loopw [115] (fun i wr => ∃ k : Nat, i = .int .i64 k ∧ k ≤ n + 1 ∧ Below w7.heap.size w7 wr) (fun i _ => n + 1 - (intOf i).toNat)
      case atStart => exact ⟨0, rfl, by omega, Hbl.out⟩
      case round =>
        obtain ⟨k, rfl, hk, hb⟩ := hrel
        by_cases hlt2 : k ≤ n
        · obtain ⟨b2, p2, x, e2, hb2, hxk, c2⟩ := (Hr1.out.below hb).int (i := k) (by rw [HRP.out.lf]; omega)
          injection e2 with e2
          injection e2 with e2 e3
          subst e2 e3
          obtain ⟨b4, p4, lo, hi, rfl, hb4, hpk, c4, c5⟩ := (Hrf.out.below hb).sp (i := k) (by rw [HF5.out]; omega)
          have hin := HF6.out k hlt2
          rw [getD_some hxk, getD_some hpk] at hin
          unfold inS at hin
          dsimp only at hin
          have t1 : ¬ x < lo := by omega
          have t2 : ¬ hi < x := by omega
          have ikn : (k : Int) < (n : Int) + 1 := by omega
          clear hxk hpk hin
          go_wp2_with fail
          exact ⟨⟨k + 1, by go_num, by omega, hb⟩, by simp [intOf]; omega⟩
        · obtain rfl : k = n + 1 := by omega
          obtain ⟨b2, p2, x, e2, hb2, hxk, c2⟩ := (Hr1.out.below hb).int (i := n) (by rw [HRP.out.lf]; omega)
          injection e2 with e2
          injection e2 with e2 e3
          subst e2 e3
          have hx : x = sm := by rw [Hsm.out]; exact (getD_some hxk).symm
          subst hx
          have inn : (n : Int) < (n : Int) + 1 := by omega
          clear hxk
          go_wp2_with fail
          go_ret
          exact ⟨rfl, hB.trans (hb.mono hB.size)⟩
set_option maxRecDepth 100000 in
theorem galleryTrue_lifted (os : Os) (started : os.Started) (H : Type) (enc : TypeId × Value → H) :
    ReturnsInHanded {} Try.checked os 7 .any (Rows.galleryTrueSpec.pre6 enc Try.prog Try.f7 Rows.galleryTrueRow.domain false) (Rows.galleryTrueSpec.post enc Try.prog Try.f7 false true false false) := by
  refine law_lifted os started H enc (s := Rows.galleryTrueSpec) Try.func7 (by kernel_rfl) ?_ rfl Try.underlying4 rfl (of_decide_eq_true (by kernel_rfl))
    (ChangeSpec.witness6 (enc := enc) (C := Try.checked) false ⟨#[], #[.slice none 0 0, .agg #[.int .i64 0, .int .i64 0], .slice none 0 0, .slice none 0 0], []⟩ 8 (by kernel_rfl) (by kernel_rfl) (by kernel_rfl) (by kernel_rfl)) ?_
  · intro ds hds
    match ds, hds with
    | [a, b, c, d], _ => rfl
  · intro W base args ds ps hval hA hlt
    rw [Try.params7] at hA hval
    obtain ⟨v0, v1, v2, v3, d0, d1, d2, d3, p0, p1, p2, p3, rfl, rfl, rfl, h0, h1, h2, h3⟩ := trodAll_four hA
    obtain ⟨A, n, c, g, rfl, hn, hm, hr, _⟩ := open_sl shape_rc Try.underlying22 cells_rc Rc.len (by omega) (hval 0 _ v0 rfl rfl) h0
    obtain ⟨s, rfl, _⟩ := open_val shape_sp Try.underlying24 (hval 1 _ v1 rfl rfl) h1
    obtain ⟨S, m, d, sh, rfl, hms, hm2, hs, h8⟩ := open_sl shape_u8 Try.underlying66 cells_u8 u8cell_len (by omega) (hval 2 _ v2 rfl rfl) h2
    obtain ⟨B, nb, cb, bys, rfl, hnb, hnb2, hby, h32⟩ := open_sl shape_u32 Try.underlying67 cells_u32 u32cell_len (by omega) (hval 3 _ v3 rfl rfl) h3
    exact true_walk A S B g s sh bys n c m d nb cb W hn hm hr hms hm2 hs h8 hnb hnb2 hby h32

theorem galleryTrue_holds : Rows.GalleryTrueSaid :=
  OpenClaim.holds_of_wide 7 Try.f7 rfl rfl rfl rfl rfl rfl rfl ⟨rfl, rfl, rfl, rfl, rfl⟩ rfl rfl rfl rfl rfl (by kernel_rfl) Try.func7 (by kernel_rfl)
    (of_decide_eq_true (by kernel_rfl)) (by unfold Func.isWrapper; rw [if_neg (of_decide_eq_false (by kernel_rfl))]; exact ⟨rfl, rfl⟩)
    (fun os started H enc _ => galleryTrue_lifted os started H enc)
#print axioms galleryTrue_holds
end Go.Proofs.Ytkmocikcohhdoaa
