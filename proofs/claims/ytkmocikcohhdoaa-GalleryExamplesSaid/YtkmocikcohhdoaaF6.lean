/- Gallery: Source, by contract. -/
import Derived.Test.YtkmocikcohhdoaaF3
import Derived.Deep.RegionHeld3
import Derived.Deep.DrawnRows
set_option linter.unusedVariables false
set_option linter.unusedSimpArgs false
namespace Go.Proofs.Ytkmocikcohhdoaa
open Go.RowKit Go.Shelf
attribute [local go_sem] ite_min ite_max
def SrcPost (ys : List Yr) (ps : List Sp) (w : World) (e : Ending) (w' : World) : Prop :=
  e = .returned (.tuple #[.agg #[.int .i64 (srcV ys ps).lo, .int .i64 (srcV ys ps).hi], .int .i64 (srcErr ys ps)]) ∧ Below w.heap.size w w'
theorem srcE (ys : List Yr) (ps : List Sp) (h : yearsOk ys ps = false) : srcV ys ps = ⟨0, 0⟩ ∧ srcErr ys ps = 22 := by simp [srcV, srcErr, h]

theorem any_bad (ys : List Yr) : ys.any Yr.bad = !(ys.all Yr.ok) := by
  induction ys with
  | nil => rfl
  | cons y ys ih => simp [Yr.bad, ih]
theorem anyBad_all (m : Int) (ps : List Sp) : anyBad m ps = !(ps.all (Sp.ok 0 m)) := by
  induction ps with
  | nil => rfl
  | cons y ys ih => simp only [anyBad, List.any_cons, List.all_cons, Bool.not_and] at *; rw [ih, spOk_bad]; simp
set_option maxHeartbeats 4000000 in
set_option maxRecDepth 100000 in
theorem source_any (A A' : Option Addr) (ys : List Yr) (ps : List Sp) (n c n' c' : Nat) (w : World) (hn : n = ys.length) (hm : n ≤ 9223372036854775807) (hx : Rd w w.heap.size Yr.cells A ys)
    (hn' : n' = ps.length) (hm' : n' ≤ 9223372036854775807) (hx' : Rd w w.heap.size Sp.cells A' ps) :
    Calls Try.prog 19 #[.slice A n c, .slice A' n' c'] w (SrcPost ys ps w) := by
  have hb0 := below_new w (.cells #[.int .i64 0, .int .i64 0] 24)
  obtain ⟨w0, Hw0⟩ : ∃ w0, Hid (w.alloc (.cells #[.int .i64 0, .int .i64 0] 24) = w0) := ⟨_, hide rfl⟩
  have hat : At w0 w.heap.size [.int .i64 0, .int .i64 0] := by rw [← Hw0.out]; exact At.new w _ _ _ rfl _ rfl
  have hfz : ∀ j : Nat, w0.frozen? ⟨w.heap.size, j, none⟩ = false := fun j => by rw [← Hw0.out]; exact At.frozen_new w _ _ _ rfl j
  have hz0 : w.heap.size < w0.heap.size := hat.1
  rw [Hw0.out] at hb0
  have Hn := hide hn; have Hx := hide hx; have Hn' := hide hn'; have Hx' := hide hx'
  clear hn hx hn' hx'
  obtain ⟨q0, q1⟩ := hat.c2
  have y0 := hfz 0
  have y1 := hfz 1
  by_cases h1 : n ≤ 12
  · by_cases h2 : n' ≤ 12
    · cases h3 : ys.all Yr.ok
      · have he := srcE ys ps (by simp [yearsOk, h3])
        have Hc := hide (containsfunc_Yr 58 #[] Yr.bad A ys n c w0 Hn.out hm enters_src1 ((Hx.out.below hb0).more hb0.size) (fun lo hi wt w' _ _ => src1_any lo hi wt w'))
        have Ht := hide (show ys.any Yr.bad = true by rw [any_bad, h3]; rfl)
        have He := hide he
        clear h3 he
        go_enter Try.func19, Try.ntmps19
        go_wp2_with fail
        rw [Hw0.out]
        refine Hc.out.mono ?_
        rintro e w1 ⟨rfl, hb1⟩
        rw [Ht.out]
        obtain ⟨p0, p1⟩ := (hat.below hb1).c2
        have g0 := (hb1.frozen (p := ⟨w.heap.size, 0, none⟩) hz0).trans y0
        have g1 := (hb1.frozen (p := ⟨w.heap.size, 1, none⟩) hz0).trans y1
        have hBW := hb0.trans (hb1.mono hb0.size)
        go_wp2_with fail
        obtain ⟨k0, k1⟩ := two_set w1 w.heap.size (.int .i64 0) (.int .i64 0) p0 p1
        exact bodyPost_ret (v := .tuple #[.agg #[.int .i64 0, .int .i64 0], .int .i64 22]) (by simp [results, Try.results19, go_sem, k0, k1]; try rfl) rfl ⟨by rw [He.out.1, He.out.2], ((hBW.setCell (Nat.le_refl _) _).setCell (Nat.le_refl _) _)⟩
      · have Hc := hide (containsfunc_Yr 58 #[] Yr.bad A ys n c w0 Hn.out hm enters_src1 ((Hx.out.below hb0).more hb0.size) (fun lo hi wt w' _ _ => src1_any lo hi wt w'))
        have Ht := hide (show ys.any Yr.bad = false by rw [any_bad, h3]; rfl)
        cases h4 : ps.all (Sp.ok 0 1000000)
        · have he := srcE ys ps (by simp [yearsOk, h4])
          have Ht2 := hide (show anyBad 1000000 ps = true by rw [anyBad_all, h4]; rfl)
          have He := hide he
          clear h3 h4 he
          go_enter Try.func19, Try.ntmps19
          go_wp2_with fail
          rw [Hw0.out]
          refine Hc.out.mono ?_
          rintro e w1 ⟨rfl, hb1⟩
          rw [Ht.out]
          have hB1 := hb0.trans (hb1.mono hb0.size)
          go_wp2_with fail
          refine (proper_any 1000000 A' ps n' c' w1 Hn'.out hm' ((Hx'.out.below hB1).more hB1.size)).mono ?_
          rintro e w2 ⟨rfl, hb2⟩
          rw [Ht2.out]
          have hb02 := hb1.trans (hb2.mono hb1.size)
          obtain ⟨p0, p1⟩ := (hat.below hb02).c2
          have g0 := (hb02.frozen (p := ⟨w.heap.size, 0, none⟩) hz0).trans y0
          have g1 := (hb02.frozen (p := ⟨w.heap.size, 1, none⟩) hz0).trans y1
          have hBW := hb0.trans (hb02.mono hb0.size)
          go_wp2_with fail
          obtain ⟨k0, k1⟩ := two_set w2 w.heap.size (.int .i64 0) (.int .i64 0) p0 p1
          exact bodyPost_ret (v := .tuple #[.agg #[.int .i64 0, .int .i64 0], .int .i64 22]) (by simp [results, Try.results19, go_sem, k0, k1]; try rfl) rfl ⟨by rw [He.out.1, He.out.2], ((hBW.setCell (Nat.le_refl _) _).setCell (Nat.le_refl _) _)⟩
        · have hok : yearsOk ys ps = true := by simp [yearsOk, h3, h4]; have := Hn.out; have := Hn'.out; omega
          have he : srcV ys ps = srcS ys ps ∧ srcErr ys ps = 0 := by simp [srcV, srcErr, hok]
          have Ht2 := hide (show anyBad 1000000 ps = false by rw [anyBad_all, h4]; rfl)
          have He := hide he
          obtain ⟨hl1, hl2, ho1, ho2⟩ := yearsOk_parts hok
          have hr := rain_bd ho1
          have hk := tak_bd ho2
          have hT1 := fun W hW => total_Yr 62 (fun y => ⟨y.fell.lo * y.weight, y.fell.hi * y.weight⟩) A ys n c W Hn.out h1 enters_src2 hW (fun x hx => by
            have := Yr.ok_bd (ho1 x hx)
            exact ⟨mul_bd (x := 10000) (y := 1000000) (by omega) (by omega) (by omega) (by omega), mul_bd (x := 10000) (y := 1000000) (by omega) (by omega) (by omega) (by omega)⟩) (fun lo hi wt w' hm _ => src2_any lo hi wt w' (ho1 _ hm))
          have hT2 := fun W hW => total_Sp 64 id A' ps n' c' W Hn'.out h2 enters_src3 hW (fun x hx => by
            have := Sp.ok_bd (ho2 x hx)
            simp only [id]; omega) (fun lo hi w' hm _ => src3_any lo hi w')
          have HT1 := hide hT1; have HT2 := hide hT2
          clear h3 h4 he hT1 hT2 ho1 ho2 hok
          go_enter Try.func19, Try.ntmps19
          go_wp2_with fail
          rw [Hw0.out]
          refine Hc.out.mono ?_
          rintro e w1 ⟨rfl, hb1⟩
          rw [Ht.out]
          have hB1 := hb0.trans (hb1.mono hb0.size)
          go_wp2_with fail
          refine (proper_any 1000000 A' ps n' c' w1 Hn'.out hm' ((Hx'.out.below hB1).more hB1.size)).mono ?_
          rintro e w2 ⟨rfl, hb2⟩
          rw [Ht2.out]
          have hb02 := hb1.trans (hb2.mono hb1.size)
          have hB2 := hb0.trans (hb02.mono hb0.size)
          go_wp2_with fail
          refine (HT1.out w2 ((Hx.out.below hB2).more hB2.size)).mono ?_
          rintro e w3 ⟨rfl, hb3⟩
          have hR1 : (List.map (fun x => ({ lo := x.fell.lo * x.weight, hi := x.fell.hi * x.weight } : Sp).lo) ys).sum = rainL ys := rfl
          have hR2 : (List.map (fun x => ({ lo := x.fell.lo * x.weight, hi := x.fell.hi * x.weight } : Sp).hi) ys).sum = rainH ys := rfl
          rw [hR1, hR2]
          clear hR1 hR2
          have hb03 := hb02.trans (hb3.mono hb02.size)
          have hB3 := hb0.trans (hb03.mono hb0.size)
          go_wp2_with fail
          refine calls_gen fun w4 Hw4 => ?_
          have hb4 : Below w3.heap.size w3 w4 := by rw [← Hw4.out]; exact below_new _ _
          have ha4 : At w4 w3.heap.size [.int .i64 (rainL ys), .int .i64 (rainH ys)] := by rw [← Hw4.out]; exact At.new w3 _ _ _ rfl _ rfl
          have hb04 := hb03.trans (hb4.mono hb03.size)
          have hB4 := hb0.trans (hb04.mono hb0.size)
          refine (HT2.out w4 ((Hx'.out.below hB4).more hB4.size)).mono ?_
          rintro e w5 ⟨rfl, hb5⟩
          have hR1 : (List.map (fun x => (id x : Sp).lo) ps).sum = takL ps := rfl
          have hR2 : (List.map (fun x => (id x : Sp).hi) ps).sum = takH ps := rfl
          rw [hR1, hR2]
          clear hR1 hR2
          have hb05 := hb04.trans (hb5.mono hb04.size)
          have hB5 := hb0.trans (hb05.mono hb0.size)
          have ha5 := ha4.below hb5
          have hz5 : w3.heap.size < w5.heap.size := ha5.1
          obtain ⟨r0, r1⟩ := ha5.c2
          obtain ⟨a, ha⟩ : ∃ a, a = rainL ys := ⟨_, rfl⟩
          obtain ⟨b, hb⟩ : ∃ b, b = rainH ys := ⟨_, rfl⟩
          obtain ⟨x, hx⟩ : ∃ x, x = takL ps := ⟨_, rfl⟩
          obtain ⟨y, hy⟩ : ∃ y, y = takH ps := ⟨_, rfl⟩
          rw [← ha] at r0 hr
          rw [← hb] at r1 hr
          rw [← hx, ← hy] at hk ⊢
          have Hl1 : (ys.length : Int) ≤ 12 := by omega
          have Hl2 : (ps.length : Int) ≤ 12 := by omega
          have v1 : IntKind.i64.wrap (1000 * y) = 1000 * y := wrapI (by omega)
          have v2 : IntKind.i64.wrap (1000 * x) = 1000 * x := wrapI (by omega)
          have v3 : IntKind.i64.wrap (a - 1000 * y) = a - 1000 * y := wrapI (by omega)
          have v4 : IntKind.i64.wrap (b - 1000 * x) = b - 1000 * x := wrapI (by omega)
          have Ha := hide ha; have Hb := hide hb; have HX := hide hx; have HY := hide hy
          have b1 : -1000000000000 ≤ a - 1000 * y ∧ a - 1000 * y ≤ 1000000000000 := by omega
          have b2 : -1000000000000 ≤ b - 1000 * x ∧ b - 1000 * x ≤ 1000000000000 := by omega
          clear ha hb hx hy ha4 hr hk Hl1 Hl2 hl1 hl2
          go_wp2_with fail
          refine calls_gen fun w6 Hw6 => ?_
          have hb6 : Below w5.heap.size w5 w6 := by rw [← Hw6.out]; exact below_new _ _
          refine (whole_any _ _ w6 b1 b2).mono ?_
          rintro e w7 ⟨rfl, hb7⟩
          have hb07 := (hb05.trans (hb6.mono hb05.size)).trans (hb7.mono (hb05.trans (hb6.mono hb05.size)).size)
          have hbx : Bx w7 w.heap.size [.int .i64 0, .int .i64 0] := ⟨hat.below hb07, fun j => (hb07.frozen (p := ⟨w.heap.size, j, none⟩) hz0).trans (hfz j)⟩
          have hBW := hb0.trans (hb07.mono hb0.size)
          have hz7 : w.heap.size < w7.heap.size := (hat.below hb07).1
          clear r0 r1 ha5 v1 v2 v3 v4 b1 b2
          go_wp2_with fail
          obtain ⟨b9, w8, eb9, ew8, hx8, hb8, hz8⟩ := mk_bx w7 #[.int .i64 (flK (a - 1000 * y)), .int .i64 (-flK (-(b - 1000 * x)))] 24
          rw [ew8.out, eb9.out]
          have hne8 : b9 ≠ w.heap.size := by have := eb9.out; omega
          replace hbx := hbx.bel hb8
          refine wp_region_held_drew (S := (fun W => Kept (fun b => b ≠ w.heap.size) w8 W)) (by kernel_rfl) (by (try dsimp only); exact Kept.all _ (Below.refl _ _).drew) (fun hHeld => ?_)
          have hdr : Below w8.heap.size w8 (World.drew w8) := (Below.refl _ _).drew
          generalize World.drew w8 = Wd8 at hHeld hdr ⊢
          have hbx := hbx.bel hdr
          have hbc := Below.refl Wd8.heap.size Wd8
          refine wpAnyH_take (i := 0) (oi := ⟨_, _, _, _, _, _⟩) (v := ?_) rfl (by kernel_rfl) (by kernel_rfl) (by kernel_rfl) (fun _ _ _ h => h) (Or.inl ⟨by rfl, ?_⟩) hHeld ?_
          rotate_left
          · (intro w hSw; (try dsimp only at hSw); go_simp; try (with_reducible rfl))
          try simp only [Act.put, List.setIfInBounds_toArray, List.set_cons_zero, List.set_cons_succ]
          refine wpAnyH_take (i := 1) (oi := ⟨_, _, _, _, _, _⟩) (v := ?_) rfl (by kernel_rfl) (by kernel_rfl) (by kernel_rfl) (fun _ _ _ h => h) (Or.inl ⟨by rfl, ?_⟩) hHeld ?_
          rotate_left
          · (intro w hSw; (try dsimp only at hSw); go_simp; try (with_reducible rfl))
          try simp only [Act.put, List.setIfInBounds_toArray, List.set_cons_zero, List.set_cons_succ]
          refine wpAnyH_take (i := 2) (oi := ⟨_, _, _, _, _, _⟩) (v := ?_) rfl (by kernel_rfl) (by kernel_rfl) (by kernel_rfl) (fun _ _ _ h => h) (Or.inl ⟨by rfl, ?_⟩) hHeld ?_
          rotate_left
          · (intro w hSw; (try dsimp only at hSw); obtain ⟨t0, t1, _, _⟩ := (hx8.kept hSw hne8).w2; go_simp; try (with_reducible rfl))
          try simp only [Act.put, List.setIfInBounds_toArray, List.set_cons_zero, List.set_cons_succ]
          refine wpAnyH_take (i := 4) (oi := ⟨_, _, _, _, _, _⟩) (v := ?_) rfl (by kernel_rfl) (by kernel_rfl) (by kernel_rfl) (fun _ _ _ h => h) (Or.inl ⟨by rfl, ?_⟩) hHeld ?_
          rotate_left
          · (intro w hSw; (try dsimp only at hSw); go_simp; try (with_reducible rfl))
          try simp only [Act.put, List.setIfInBounds_toArray, List.set_cons_zero, List.set_cons_succ]
          refine wpAnyH_take (i := 5) (oi := ⟨_, _, _, _, _, _⟩) (v := ?_) rfl (by kernel_rfl) (by kernel_rfl) (by kernel_rfl) (fun _ _ _ h => h) (Or.inl ⟨by rfl, ?_⟩) hHeld ?_
          rotate_left
          · (intro w hSw; (try dsimp only at hSw); go_simp; try (with_reducible rfl))
          try simp only [Act.put, List.setIfInBounds_toArray, List.set_cons_zero, List.set_cons_succ]
          refine wpAnyH_take (i := 6) (oi := ⟨_, _, _, _, _, _⟩) (v := ?_) rfl (by kernel_rfl) (by kernel_rfl) (by kernel_rfl) (fun _ _ _ h => h) (Or.inl ⟨by rfl, ?_⟩) hHeld ?_
          rotate_left
          · (intro w hSw; (try dsimp only at hSw); obtain ⟨t0, t1, _, _⟩ := (hx8.kept hSw hne8).w2; go_simp; try (with_reducible rfl))
          try simp only [Act.put, List.setIfInBounds_toArray, List.set_cons_zero, List.set_cons_succ]
          refine wpAnyH_ready (rs := [3]) (by kernel_rfl) (by simp) ?_
          refine AllReadyH.cons (o := ⟨_, _, _, _, _, _⟩) rfl (fun K hK => ?_) AllReadyH.nil
          go_simp
          refine (src4_any _ _).mono ?_
          rintro e V51 ⟨rfl, hb⟩
          go_wp2_with fail
          have hHeldN := hHeld.trans (Kept.all _ hb)
          have hbx := hbx.bel hb
          have hbc := hbc.trans (hb.mono hbc.size)
          refine hK.out _ _ ?_ (fun hHeld2 => ?_)
          · exact hHeldN
          clear hK K hHeld hHeldN hb; have hHeld := hHeld2; clear hHeld2
          try simp only [Act.put, List.setIfInBounds_toArray, List.set_cons_zero, List.set_cons_succ]
          refine wpAnyH_ready (rs := [7]) (by kernel_rfl) (by simp) ?_
          refine AllReadyH.cons (o := ⟨_, _, _, _, _, _⟩) rfl (fun K hK => ?_) AllReadyH.nil
          go_simp
          refine (src4_any _ _).mono ?_
          rintro e V55 ⟨rfl, hb⟩
          go_wp2_with fail
          have hHeldN := hHeld.trans (Kept.all _ hb)
          have hbx := hbx.bel hb
          have hbc := hbc.trans (hb.mono hbc.size)
          refine hK.out _ _ ?_ (fun hHeld2 => ?_)
          · exact hHeldN
          clear hK K hHeld hHeldN hb; have hHeld := hHeld2; clear hHeld2
          try simp only [Act.put, List.setIfInBounds_toArray, List.set_cons_zero, List.set_cons_succ]
          refine wpAnyH_take (i := 8) (oi := ⟨_, _, _, _, _, _⟩) (v := ?_) rfl (by kernel_rfl) (by kernel_rfl) (by kernel_rfl) (fun _ _ _ h => h) (Or.inl ⟨by rfl, ?_⟩) hHeld ?_
          rotate_left
          · (intro w hSw; (try dsimp only at hSw); go_simp; try (with_reducible rfl))
          try simp only [Act.put, List.setIfInBounds_toArray, List.set_cons_zero, List.set_cons_succ]
          refine wpAnyH_ready (rs := [9]) (by kernel_rfl) (by simp) ?_
          refine AllReadyH.cons (o := ⟨_, _, _, _, _, _⟩) rfl (fun K hK => ?_) AllReadyH.nil
          obtain ⟨p0, p1, g0, g1⟩ := hbx.w2
          obtain ⟨k0, k1⟩ := two_set V55 w.heap.size (.int .i64 (clip (flK (a - 1000 * y)))) (.int .i64 (clip (-flK (-(b - 1000 * x))))) p0 p1
          go_simp
          have hf := hHeld.trans ((Kept.setCell V55 ⟨w.heap.size, 0, none⟩ (.int .i64 (clip (flK (a - 1000 * y))))).trans (Kept.setCell (V55.setCell ⟨w.heap.size, 0, none⟩ (.int .i64 (clip (flK (a - 1000 * y))))) ⟨w.heap.size, 1, none⟩ (.int .i64 (clip (-flK (-(b - 1000 * x)))))))
          refine hK.out _ _ ?_ (fun hHeld2 => ?_)
          · (try dsimp only); exact hf
          clear hK K hHeld; have hHeld := hHeld2; clear hHeld2
          try simp only [Act.put, List.setIfInBounds_toArray, List.set_cons_zero, List.set_cons_succ]
          refine wpAnyH_take (i := 10) (oi := ⟨_, _, _, _, _, _⟩) (v := ?_) rfl (by kernel_rfl) (by kernel_rfl) (by kernel_rfl) (fun _ _ _ h => h) (Or.inl ⟨by rfl, ?_⟩) hHeld ?_
          rotate_left
          · (intro w hSw; (try dsimp only at hSw); go_simp; try (with_reducible rfl))
          try simp only [Act.put, List.setIfInBounds_toArray, List.set_cons_zero, List.set_cons_succ]
          refine wpAnyH_done (by kernel_rfl) ?_ _
          go_wp2_with fail
          refine bodyPost_ret (v := .tuple #[.agg #[.int .i64 (clip (flK (a - 1000 * y))), .int .i64 (clip (-flK (-(b - 1000 * x))))], .int .i64 0]) (by simp [results, Try.results19, go_sem, k0, k1]; try rfl) rfl ⟨?_, ?_⟩
          · rw [He.out.1, He.out.2, Ha.out, Hb.out, HX.out, HY.out]; rfl
          · have hB8 := hBW.trans (hb8.mono hBW.size)
            exact hB8.trans (hf.below (fun b hb => by omega) hB8.size)
    · have He := hide (srcE ys ps (by have := Hn.out; have := Hn'.out; simp [yearsOk]; omega))
      go_enter Try.func19, Try.ntmps19
      go_wp2_with fail
      exact bodyPost_ret (v := .tuple #[.agg #[.int .i64 0, .int .i64 0], .int .i64 22]) (by simp [results, Try.results19, go_sem]; try rfl) rfl ⟨by rw [He.out.1, He.out.2], below_new _ _⟩
  · have He := hide (srcE ys ps (by have := Hn.out; have := Hn'.out; simp [yearsOk]; omega))
    go_enter Try.func19, Try.ntmps19
    go_wp2_with fail
    exact bodyPost_ret (v := .tuple #[.agg #[.int .i64 0, .int .i64 0], .int .i64 22]) (by simp [results, Try.results19, go_sem]; try rfl) rfl ⟨by rw [He.out.1, He.out.2], below_new _ _⟩
end Go.Proofs.Ytkmocikcohhdoaa
