/- The reference of channel: Minutes, by contract. -/
import Derived.Test.YtmbhnjpaieimbaaWR5
import Derived.Test.YtmbhnjpaieimbaaR2
set_option linter.unusedVariables false
set_option linter.unusedSimpArgs false
namespace Go.Proofs.Ytmbhnjpaieimbaa
open Go.RowKit Go.Shelf
attribute [local go_sem ↓] Go.wp_at_zero Go.wp_at_succ
theorem getK_full_amt {cs : List Ca} {fs : List Int} {dry days : Int} (hok : netOk cs fs dry days = true) (p : List Int) {v : Int} (hv : amt v) : amt (getK cs p v) := by
  have h := getK_amt hok p hv p.length (Nat.le_refl _)
  rwa [List.take_length] at h
set_option maxHeartbeats 4000000 in
set_option maxRecDepth 100000 in
theorem rMinutes_fn (Ac Af : Option Addr) (nc cc nf cf : Nat) (dry days a b k want : Int) (cs : List Ca) (fs : List Int) (w : World) (hnet : NetAt w Ac Af nc nf cs fs) :
    Calls Try.prog 66 #[.agg #[.slice Ac nc cc, .slice Af nf cf, .int .i64 dry, .int .i64 days], .agg #[.int .i64 a, .int .i64 b], .int .i64 k, .int .i64 want] w fun e w' => ∃ r er : Int, e = .returned (.tuple #[.int .i64 r, .int .i64 er]) ∧ minutesP cs fs dry days a b k want r er ∧ Below w.heap.size w w' := by
  have hat0 := (At.new w #[.slice Ac nc cc, .slice Af nf cf, .int .i64 dry, .int .i64 days] 43 w.heap.size rfl _ rfl).alloc (.cells #[.int .i64 a, .int .i64 b] 23)
  have hat1 := At.new (w.alloc (.cells #[.slice Ac nc cc, .slice Af nf cf, .int .i64 dry, .int .i64 days] 43)) #[.int .i64 a, .int .i64 b] 23 (w.heap.size + 1) (by simp) _ rfl
  have hB0 := (below_new w (.cells #[.slice Ac nc cc, .slice Af nf cf, .int .i64 dry, .int .i64 days] 43)).alloc (by simp) (.cells #[.int .i64 a, .int .i64 b] 23)
  have hnf2 := hnet.nf2
  have Hnet := hide hnet
  clear hnet
  cases hok : netOk cs fs dry days
  · have he : netErr cs fs dry days = 50 := by simp [netErr, hok]
    have hs : minutesP cs fs dry days a b k want 0 50 := by unfold minutesP; simp [hok]
    have He := hide he; have Hs := hide hs
    clear he hs hok
    go_enter Try.func66, Try.ntmps66
    go_wp2_with fail
    refine calls_gen fun W1 HW1 => ?_
    rw [HW1.out] at hat0 hat1 hB0
    refine (rCheck_any Ac Af nc cc nf cf dry days cs fs W1 (Hnet.out.below hB0)).mono ?_
    rintro e w2 ⟨rfl, hb2⟩
    rw [He.out]
    go_wp2
    go_ret2
    exact ⟨_, _, rfl, Hs.out, hB0.trans (hb2.mono hB0.size)⟩
  · have he : netErr cs fs dry days = 0 := by simp [netErr, hok]
    have hdy := (netOk_parts hok).2.2.2.1
    cases hsp : Sp.ok 0 13000000 ⟨a, b⟩
    · have hs : minutesP cs fs dry days a b k want 0 21 := by unfold minutesP; simp [hok, hsp]
      have He := hide he; have Hsp := hide hsp; have Hs := hide hs
      clear he hs hok hsp
      go_enter Try.func66, Try.ntmps66
      go_wp2_with fail
      refine calls_gen fun W1 HW1 => ?_
      rw [HW1.out] at hat0 hat1 hB0
      refine (rCheck_any Ac Af nc cc nf cf dry days cs fs W1 (Hnet.out.below hB0)).mono ?_
      rintro e w2 ⟨rfl, hb2⟩
      rw [He.out]
      obtain ⟨p0, p1⟩ := (hat1.below hb2).c2
      go_wp2_with fail
      refine (rFlows_any a b w2).mono ?_
      rintro e w3 ⟨rfl, hb3⟩
      rw [Hsp.out]
      go_wp2
      go_ret2
      exact ⟨_, _, rfl, Hs.out, hB0.trans ((hb2.trans (hb3.mono hb2.size)).mono hB0.size)⟩
    · have hs : ∀ r e, (if inF nf k && inB 0 1000000000000 want then leastB (enoughB cs fs a k want) (days * 1440) r e else (r = 0 ∧ e = 2)) → minutesP cs fs dry days a b k want r e := by
        intro r e h; simpa [minutesP, hok, hsp, Hnet.out.ef] using h
      have He := hide he; have Hsp := hide hsp; have Hok := hide hok; have Hs := hide hs
      clear he hs hok hsp
      cases hin : inF nf k
      · have hs2 := Hs.out 0 2 (by simp [hin])
        have Hin := hide hin; have Hs2 := hide hs2
        clear hin hs2
        go_enter Try.func66, Try.ntmps66
        go_wp2_with fail
        refine calls_gen fun W1 HW1 => ?_
        rw [HW1.out] at hat0 hat1 hB0
        refine (rCheck_any Ac Af nc cc nf cf dry days cs fs W1 (Hnet.out.below hB0)).mono ?_
        rintro e w2 ⟨rfl, hb2⟩
        rw [He.out]
        obtain ⟨p0, p1⟩ := (hat1.below hb2).c2
        go_wp2_with fail
        refine (rFlows_any a b w2).mono ?_
        rintro e w3 ⟨rfl, hb3⟩
        rw [Hsp.out]
        have hb13 := hb2.trans (hb3.mono hb2.size)
        have hB2 := hB0.trans (hb13.mono hB0.size)
        obtain ⟨q0, q1, q2, q3⟩ := (hat0.below hb13).c4
        clear p0 p1
        go_wp2_with fail
        refine (rField_any Ac Af nc cc nf cf dry days k w3 hnf2).mono ?_
        rintro e w4 ⟨rfl, hb4⟩
        rw [Hin.out]
        go_wp2
        go_ret2
        exact ⟨_, _, rfl, Hs2.out, hB2.trans (hb4.mono hB2.size)⟩
      · have Hin := hide hin
        have hk2 : 0 ≤ k ∧ k < nf := by simpa [inF] using hin
        obtain ⟨k0, k1⟩ := hk2
        rw [hin, Bool.true_and] at Hs
        clear hin
        cases hwt : inB 0 1000000000000 want
        · have hs2 := Hs.out 0 2 (by simp [hwt])
          have Hwt := hide hwt; have Hs2 := hide hs2
          clear hwt hs2
          go_enter Try.func66, Try.ntmps66
          go_wp2_with fail
          refine calls_gen fun W1 HW1 => ?_
          rw [HW1.out] at hat0 hat1 hB0
          refine (rCheck_any Ac Af nc cc nf cf dry days cs fs W1 (Hnet.out.below hB0)).mono ?_
          rintro e w2 ⟨rfl, hb2⟩
          rw [He.out]
          obtain ⟨p0, p1⟩ := (hat1.below hb2).c2
          go_wp2_with fail
          refine (rFlows_any a b w2).mono ?_
          rintro e w3 ⟨rfl, hb3⟩
          rw [Hsp.out]
          have hb13 := hb2.trans (hb3.mono hb2.size)
          have hB2 := hB0.trans (hb13.mono hB0.size)
          obtain ⟨q0, q1, q2, q3⟩ := (hat0.below hb13).c4
          clear p0 p1
          go_wp2_with fail
          refine (rField_any Ac Af nc cc nf cf dry days k w3 hnf2).mono ?_
          rintro e w4 ⟨rfl, hb4⟩
          rw [Hin.out]
          go_wp2_with fail
          refine (aflajref05_within _ _ _ _).mono ?_
          rintro e w5 ⟨rfl, rfl⟩
          rw [Hwt.out]
          go_wp2
          go_ret2
          exact ⟨_, _, rfl, Hs2.out, hB2.trans (hb4.mono hB2.size)⟩
        · have hs2 : ∀ r e, leastB (enoughB cs fs a k want) (days * 1440) r e → minutesP cs fs dry days a b k want r e := fun r e h => Hs.out r e (by rw [hwt]; exact h)
          have hw2 : 0 ≤ want ∧ want ≤ 1000000000000 := by simpa [inB] using hwt
          have hcy := fun (t : Int) (t0 : 0 ≤ t) (t1 : t ≤ days * 1440) => flow_amts (m := t) Hsp.out hdy t0 t1
          have hzero : want = 0 → ∀ t, 0 ≤ t → t ≤ days * 1440 → enoughB cs fs a k want t = true := fun h t t0 t1 => by
            subst h
            have := (getK_full_amt Hok.out (pathK cs fs k) (hcy t t0 t1).1).1
            simpa [enoughB] using this
          have Hwt := hide hwt; have Hs2 := hide hs2; have Hcyc := hide hcy; have Hzero := hide hzero
          have Hcy := hide (hcy (days * 1440) (by omega) (by omega))
          clear hwt hs2 Hs hcy hzero
          obtain ⟨w0, w1⟩ := hw2
          go_enter Try.func66, Try.ntmps66
          go_wp2_with fail
          refine calls_gen fun W1 HW1 => ?_
          rw [HW1.out] at hat0 hat1 hB0
          refine (rCheck_any Ac Af nc cc nf cf dry days cs fs W1 (Hnet.out.below hB0)).mono ?_
          rintro e w2 ⟨rfl, hb2⟩
          rw [He.out]
          obtain ⟨p0, p1⟩ := (hat1.below hb2).c2
          go_wp2_with fail
          refine (rFlows_any a b w2).mono ?_
          rintro e w3 ⟨rfl, hb3⟩
          rw [Hsp.out]
          have hb13 := hb2.trans (hb3.mono hb2.size)
          have hB2 := hB0.trans (hb13.mono hB0.size)
          have hn3 := hat0.below hb13
          have hf3 := hat1.below hb13
          obtain ⟨q0, q1, q2, q3⟩ := hn3.c4
          clear p0 p1 hat0 hat1 hB0 hb2 hb3 hb13
          go_wp2_with fail
          refine (rField_any Ac Af nc cc nf cf dry days k w3 hnf2).mono ?_
          rintro e w4 ⟨rfl, hb4⟩
          rw [Hin.out]
          have hn4 := hn3.below hb4
          have hf4 := hf3.below hb4
          have hB4 := hB2.trans (hb4.mono hB2.size)
          have HN4 := hide (Hnet.out.below hB4)
          clear q0 q1 q2 q3 hn3 hf3 hB2 hb4
          go_wp2_with fail
          refine (aflajref05_within _ _ _ _).mono ?_
          rintro e w5 ⟨rfl, rfl⟩
          rw [Hwt.out]
          by_cases hw0 : want = 0
          · subst hw0
            go_wp2_with fail
            refine wp_region_held_drew (S := (fun W => Below w4.heap.size w4 W)) (by kernel_rfl) (by (try dsimp only); exact (Below.refl _ _).drew) (fun hHeld => ?_)
            refine wpAnyH_take (i := 0) (oi := ⟨_, _, _, _, _, _⟩) (v := ?_) rfl (by kernel_rfl) (by kernel_rfl) (by kernel_rfl) (fun _ _ _ h => h) (Or.inl ⟨by rfl, ?_⟩) hHeld ?_
            rotate_left
            · (intro w hSw; (try dsimp only at hSw); go_simp; try (with_reducible rfl))
            try simp only [Act.put, List.setIfInBounds_toArray, List.set_cons_zero, List.set_cons_succ]
            refine wpAnyH_take (i := 1) (oi := ⟨_, _, _, _, _, _⟩) (v := ?_) rfl (by kernel_rfl) (by kernel_rfl) (by kernel_rfl) (fun _ _ _ h => h) (Or.inl ⟨by rfl, ?_⟩) hHeld ?_
            rotate_left
            · (intro w hSw; (try dsimp only at hSw); go_simp; try (with_reducible rfl))
            try simp only [Act.put, List.setIfInBounds_toArray, List.set_cons_zero, List.set_cons_succ]
            refine wpAnyH_take (i := 2) (oi := ⟨_, _, _, _, _, _⟩) (v := ?_) rfl (by kernel_rfl) (by kernel_rfl) (by kernel_rfl) (fun _ _ _ h => h) (Or.inl ⟨by rfl, ?_⟩) hHeld ?_
            rotate_left
            · (intro w hSw; (try dsimp only at hSw); go_simp; try (with_reducible rfl))
            try simp only [Act.put, List.setIfInBounds_toArray, List.set_cons_zero, List.set_cons_succ]
            refine wpAnyH_take (i := 3) (oi := ⟨_, _, _, _, _, _⟩) (v := _) rfl (by kernel_rfl) (by kernel_rfl) (by kernel_rfl) (fun _ _ _ h => h) (Or.inr ⟨by rfl, rfl⟩) hHeld ?_
            try simp only [Act.put, List.setIfInBounds_toArray, List.set_cons_zero, List.set_cons_succ]
            refine wpAnyH_take (i := 4) (oi := ⟨_, _, _, _, _, _⟩) (v := _) rfl (by kernel_rfl) (by kernel_rfl) (by kernel_rfl) (fun _ _ _ h => h) (Or.inr ⟨by rfl, rfl⟩) hHeld ?_
            try simp only [Act.put, List.setIfInBounds_toArray, List.set_cons_zero, List.set_cons_succ]
            refine wpAnyH_take (i := 5) (oi := ⟨_, _, _, _, _, _⟩) (v := _) rfl (by kernel_rfl) (by kernel_rfl) (by kernel_rfl) (fun _ _ _ h => h) (Or.inr ⟨by rfl, rfl⟩) hHeld ?_
            try simp only [Act.put, List.setIfInBounds_toArray, List.set_cons_zero, List.set_cons_succ]
            refine wpAnyH_take (i := 6) (oi := ⟨_, _, _, _, _, _⟩) (v := _) rfl (by kernel_rfl) (by kernel_rfl) (by kernel_rfl) (fun _ _ _ h => h) (Or.inr ⟨by rfl, rfl⟩) hHeld ?_
            try simp only [Act.put, List.setIfInBounds_toArray, List.set_cons_zero, List.set_cons_succ]
            refine wpAnyH_take (i := 7) (oi := ⟨_, _, _, _, _, _⟩) (v := _) rfl (by kernel_rfl) (by kernel_rfl) (by kernel_rfl) (fun _ _ _ h => h) (Or.inr ⟨by rfl, rfl⟩) hHeld ?_
            try simp only [Act.put, List.setIfInBounds_toArray, List.set_cons_zero, List.set_cons_succ]
            refine wpAnyH_take (i := 8) (oi := ⟨_, _, _, _, _, _⟩) (v := _) rfl (by kernel_rfl) (by kernel_rfl) (by kernel_rfl) (fun _ _ _ h => h) (Or.inr ⟨by rfl, rfl⟩) hHeld ?_
            try simp only [Act.put, List.setIfInBounds_toArray, List.set_cons_zero, List.set_cons_succ]
            refine wpAnyH_take (i := 9) (oi := ⟨_, _, _, _, _, _⟩) (v := _) rfl (by kernel_rfl) (by kernel_rfl) (by kernel_rfl) (fun _ _ _ h => h) (Or.inr ⟨by rfl, rfl⟩) hHeld ?_
            try simp only [Act.put, List.setIfInBounds_toArray, List.set_cons_zero, List.set_cons_succ]
            refine wpAnyH_take (i := 10) (oi := ⟨_, _, _, _, _, _⟩) (v := _) rfl (by kernel_rfl) (by kernel_rfl) (by kernel_rfl) (fun _ _ _ h => h) (Or.inr ⟨by rfl, rfl⟩) hHeld ?_
            try simp only [Act.put, List.setIfInBounds_toArray, List.set_cons_zero, List.set_cons_succ]
            refine wpAnyH_take (i := 11) (oi := ⟨_, _, _, _, _, _⟩) (v := ?_) rfl (by kernel_rfl) (by kernel_rfl) (by kernel_rfl) (fun _ _ _ h => h) (Or.inl ⟨by rfl, ?_⟩) hHeld ?_
            rotate_left
            · (intro w hSw; (try dsimp only at hSw); go_simp; try (with_reducible rfl))
            try simp only [Act.put, List.setIfInBounds_toArray, List.set_cons_zero, List.set_cons_succ]
            refine wpAnyH_done (by kernel_rfl) ?_ _
            have hn5 := hn4.below hHeld
            have hf5 := hf4.below hHeld
            have hB5 := hB4.trans (hHeld.mono hB4.size)
            obtain ⟨q0, q1, q2, q3⟩ := hn5.c4
            clear hHeld
            go_wp2_with fail
            refine (rCycle_any _ _ _ _ _ _ _ _ _ (by omega) (by omega)).mono ?_
            rintro e w6 ⟨rfl, hb6⟩
            have hn6 := hn5.below hb6
            have hf6 := hf5.below hb6
            have hB6 := hB5.trans (hb6.mono hB5.size)
            clear q0 q1 q2 q3 hn4 hf4 hB4 hn5 hf5 hB5 hb6
            go_wp2_with fail
            go_loopw [10, 11] (fun x y wr => ∃ lo en : Int, x = .int .i64 lo ∧ y = .int .i64 en ∧ Below w6.heap.size w6 wr ∧ (0 ≤ lo ∧ lo ≤ en ∧ en ≤ days * 1440) ∧ Hid (lo = 0 ∨ enoughB cs fs a k 0 (lo - 1) = false) ∧ Hid (enoughB cs fs a k 0 en = true)) (fun x y _ => (intOf y - intOf x).toNat)
            case atStart => exact ⟨0, days * 1440, rfl, rfl, Below.refl _ _, ⟨by omega, by omega, by omega⟩, hide (.inl rfl), hide (Hzero.out (by trivial) _ (by omega) (by omega))⟩
            case round =>
              obtain ⟨lo, en, rfl, rfl, hb, ⟨b0, b1, b2⟩, hl, he⟩ := hrel
              obtain ⟨q0, q1, q2, q3⟩ := (hn6.below hb).c4
              obtain ⟨p0, p1⟩ := (hf6.below hb).c2
              by_cases hlt : lo < en
              · have hq0 : (lo + en).tdiv 2 = (lo + en) / 2 := Int.tdiv_eq_ediv_of_nonneg (by omega)
                obtain ⟨q, hq⟩ : ∃ q, q = (lo + en) / 2 := ⟨_, rfl⟩
                rw [← hq] at hq0
                have hq1 : lo ≤ q ∧ q < en := by omega
                obtain ⟨hq2, hq3⟩ := hq1
                clear hq
                go_wp2_with fail
                exact ⟨⟨lo, q, rfl, rfl, hb, ⟨by omega, by omega, by omega⟩, hl, hide (Hzero.out (by trivial) q (by omega) (by omega))⟩, by simp [intOf]; omega⟩
              · obtain rfl : lo = en := by omega
                go_wp2
                go_ret2
                exact ⟨_, _, rfl, Hs2.out lo 0 (.inr ⟨rfl, by omega, by omega, he.out, hl.out⟩), hB6.trans (hb.mono hB6.size)⟩
          · have hpos : 0 < want := by omega
            have hwb : (want == 0) = false := by simpa using hw0
            cases hen : enoughB cs fs a k want (days * 1440)
            · have hlt : getK cs (pathK cs fs k) (a * (days * 1440)) < want := by simpa [enoughB] using hen
              go_wp2_with fail
              refine wp_region_held_drew (S := (fun W => Below w4.heap.size w4 W)) (by kernel_rfl) (by (try dsimp only); exact (Below.refl _ _).drew) (fun hHeld => ?_)
              refine wpAnyH_take (i := 0) (oi := ⟨_, _, _, _, _, _⟩) (v := ?_) rfl (by kernel_rfl) (by kernel_rfl) (by kernel_rfl) (fun _ _ _ h => h) (Or.inl ⟨by rfl, ?_⟩) hHeld ?_
              rotate_left
              · (intro w hSw; (try dsimp only at hSw); go_simp; try (with_reducible rfl))
              try simp only [Act.put, List.setIfInBounds_toArray, List.set_cons_zero, List.set_cons_succ]
              refine wpAnyH_take (i := 1) (oi := ⟨_, _, _, _, _, _⟩) (v := ?_) rfl (by kernel_rfl) (by kernel_rfl) (by kernel_rfl) (fun _ _ _ h => h) (Or.inl ⟨by rfl, ?_⟩) hHeld ?_
              rotate_left
              · (intro w hSw; (try dsimp only at hSw); go_simp; try (with_reducible rfl))
              try simp only [Act.put, List.setIfInBounds_toArray, List.set_cons_zero, List.set_cons_succ]
              refine wpAnyH_take (i := 2) (oi := ⟨_, _, _, _, _, _⟩) (v := ?_) rfl (by kernel_rfl) (by kernel_rfl) (by kernel_rfl) (fun _ _ _ h => h) (Or.inl ⟨by rfl, ?_⟩) hHeld ?_
              rotate_left
              · (intro w hSw; (try dsimp only at hSw); go_simp; try (with_reducible rfl))
              try simp only [Act.put, List.setIfInBounds_toArray, List.set_cons_zero, List.set_cons_succ]
              refine wpAnyH_take (i := 3) (oi := ⟨_, _, _, _, _, _⟩) (v := ?_) rfl (by kernel_rfl) (by kernel_rfl) (by kernel_rfl) (fun _ _ _ h => h) (Or.inl ⟨by rfl, ?_⟩) hHeld ?_
              rotate_left
              · (intro w hSw; (try dsimp only at hSw); obtain ⟨q0, q1, q2, q3⟩ := (hn4.below hSw).c4; obtain ⟨p0, p1⟩ := (hf4.below hSw).c2; go_simp; try (with_reducible rfl))
              try simp only [Act.put, List.setIfInBounds_toArray, List.set_cons_zero, List.set_cons_succ]
              refine wpAnyH_take (i := 4) (oi := ⟨_, _, _, _, _, _⟩) (v := ?_) rfl (by kernel_rfl) (by kernel_rfl) (by kernel_rfl) (fun _ _ _ h => h) (Or.inl ⟨by rfl, ?_⟩) hHeld ?_
              rotate_left
              · (intro w hSw; (try dsimp only at hSw); obtain ⟨q0, q1, q2, q3⟩ := (hn4.below hSw).c4; obtain ⟨p0, p1⟩ := (hf4.below hSw).c2; go_simp; try (with_reducible rfl))
              try simp only [Act.put, List.setIfInBounds_toArray, List.set_cons_zero, List.set_cons_succ]
              refine wpAnyH_take (i := 5) (oi := ⟨_, _, _, _, _, _⟩) (v := ?_) rfl (by kernel_rfl) (by kernel_rfl) (by kernel_rfl) (fun _ _ _ h => h) (Or.inl ⟨by rfl, ?_⟩) hHeld ?_
              rotate_left
              · (intro w hSw; (try dsimp only at hSw); go_simp; try (with_reducible rfl))
              try simp only [Act.put, List.setIfInBounds_toArray, List.set_cons_zero, List.set_cons_succ]
              refine wpAnyH_take (i := 6) (oi := ⟨_, _, _, _, _, _⟩) (v := ?_) rfl (by kernel_rfl) (by kernel_rfl) (by kernel_rfl) (fun _ _ _ h => h) (Or.inl ⟨by rfl, ?_⟩) hHeld ?_
              rotate_left
              · (intro w hSw; (try dsimp only at hSw); obtain ⟨q0, q1, q2, q3⟩ := (hn4.below hSw).c4; obtain ⟨p0, p1⟩ := (hf4.below hSw).c2; go_simp; try (with_reducible rfl))
              try simp only [Act.put, List.setIfInBounds_toArray, List.set_cons_zero, List.set_cons_succ]
              refine wpAnyH_take (i := 9) (oi := ⟨_, _, _, _, _, _⟩) (v := ?_) rfl (by kernel_rfl) (by kernel_rfl) (by kernel_rfl) (fun _ _ _ h => h) (Or.inl ⟨by rfl, ?_⟩) hHeld ?_
              rotate_left
              · (intro w hSw; (try dsimp only at hSw); go_simp; try (with_reducible rfl))
              try simp only [Act.put, List.setIfInBounds_toArray, List.set_cons_zero, List.set_cons_succ]
              refine wpAnyH_ready (rs := [7]) (by kernel_rfl) (by simp) ?_
              refine AllReadyH.cons (o := ⟨_, _, _, _, _, _⟩) rfl (fun K hK => ?_) AllReadyH.nil
              go_simp
              refine (rCycle_any _ _ _ _ _ _ _ _ _ (by omega) (by omega)).mono ?_
              rintro e w' ⟨rfl, hb⟩
              go_wp2_with fail
              refine hK.out _ _ ?_ (fun hHeld2 => ?_)
              · (try dsimp only)
                (first | exact hHeld | exact hHeld.trans (hb.mono hHeld.size) | exact hHeld.trans ((below_new _ _).mono hHeld.size) | exact hHeld.drew)
              clear hK K hHeld; have hHeld := hHeld2; clear hHeld2
              try simp only [Act.put, List.setIfInBounds_toArray, List.set_cons_zero, List.set_cons_succ]
              refine wpAnyH_ready (rs := [8]) (by kernel_rfl) (by simp) ?_
              refine AllReadyH.cons (o := ⟨_, _, _, _, _, _⟩) rfl (fun K hK => ?_) AllReadyH.nil
              go_simp
              refine (rGets_any Ac Af nc cc nf cf dry days a b k _ cs fs _ (HN4.out.below hHeld) Hok.out Hcy.out k0 k1).mono ?_
              rintro e w' ⟨rfl, hb⟩
              go_wp2_with fail
              refine hK.out _ _ ?_ (fun hHeld2 => ?_)
              · (try dsimp only)
                (first | exact hHeld | exact hHeld.trans (hb.mono hHeld.size) | exact hHeld.trans ((below_new _ _).mono hHeld.size) | exact hHeld.drew)
              clear hK K hHeld; have hHeld := hHeld2; clear hHeld2
              try simp only [Act.put, List.setIfInBounds_toArray, List.set_cons_zero, List.set_cons_succ]
              refine wpAnyH_take (i := 10) (oi := ⟨_, _, _, _, _, _⟩) (v := ?_) rfl (by kernel_rfl) (by kernel_rfl) (by kernel_rfl) (fun _ _ _ h => h) (Or.inl ⟨by rfl, ?_⟩) hHeld ?_
              rotate_left
              · (intro w hSw; (try dsimp only at hSw); go_simp; try (with_reducible rfl))
              try simp only [Act.put, List.setIfInBounds_toArray, List.set_cons_zero, List.set_cons_succ]
              refine wpAnyH_take (i := 11) (oi := ⟨_, _, _, _, _, _⟩) (v := ?_) rfl (by kernel_rfl) (by kernel_rfl) (by kernel_rfl) (fun _ _ _ h => h) (Or.inl ⟨by rfl, ?_⟩) hHeld ?_
              rotate_left
              · (intro w hSw; (try dsimp only at hSw); go_simp; try (with_reducible rfl))
              try simp only [Act.put, List.setIfInBounds_toArray, List.set_cons_zero, List.set_cons_succ]
              refine wpAnyH_done (by kernel_rfl) ?_ _
              go_wp2
              go_ret2
              exact ⟨_, _, rfl, Hs2.out 0 6 (.inl ⟨rfl, rfl, hen⟩), hB4.trans (hHeld.mono hB4.size)⟩
            · have hge : want ≤ getK cs (pathK cs fs k) (a * (days * 1440)) := by simpa [enoughB] using hen
              have Hen := hide hen
              clear hen
              go_wp2_with fail
              refine wp_region_held_drew (S := (fun W => Below w4.heap.size w4 W)) (by kernel_rfl) (by (try dsimp only); exact (Below.refl _ _).drew) (fun hHeld => ?_)
              refine wpAnyH_take (i := 0) (oi := ⟨_, _, _, _, _, _⟩) (v := ?_) rfl (by kernel_rfl) (by kernel_rfl) (by kernel_rfl) (fun _ _ _ h => h) (Or.inl ⟨by rfl, ?_⟩) hHeld ?_
              rotate_left
              · (intro w hSw; (try dsimp only at hSw); go_simp; try (with_reducible rfl))
              try simp only [Act.put, List.setIfInBounds_toArray, List.set_cons_zero, List.set_cons_succ]
              refine wpAnyH_take (i := 1) (oi := ⟨_, _, _, _, _, _⟩) (v := ?_) rfl (by kernel_rfl) (by kernel_rfl) (by kernel_rfl) (fun _ _ _ h => h) (Or.inl ⟨by rfl, ?_⟩) hHeld ?_
              rotate_left
              · (intro w hSw; (try dsimp only at hSw); go_simp; try (with_reducible rfl))
              try simp only [Act.put, List.setIfInBounds_toArray, List.set_cons_zero, List.set_cons_succ]
              refine wpAnyH_take (i := 2) (oi := ⟨_, _, _, _, _, _⟩) (v := ?_) rfl (by kernel_rfl) (by kernel_rfl) (by kernel_rfl) (fun _ _ _ h => h) (Or.inl ⟨by rfl, ?_⟩) hHeld ?_
              rotate_left
              · (intro w hSw; (try dsimp only at hSw); go_simp; try (with_reducible rfl))
              try simp only [Act.put, List.setIfInBounds_toArray, List.set_cons_zero, List.set_cons_succ]
              refine wpAnyH_take (i := 3) (oi := ⟨_, _, _, _, _, _⟩) (v := ?_) rfl (by kernel_rfl) (by kernel_rfl) (by kernel_rfl) (fun _ _ _ h => h) (Or.inl ⟨by rfl, ?_⟩) hHeld ?_
              rotate_left
              · (intro w hSw; (try dsimp only at hSw); obtain ⟨q0, q1, q2, q3⟩ := (hn4.below hSw).c4; obtain ⟨p0, p1⟩ := (hf4.below hSw).c2; go_simp; try (with_reducible rfl))
              try simp only [Act.put, List.setIfInBounds_toArray, List.set_cons_zero, List.set_cons_succ]
              refine wpAnyH_take (i := 4) (oi := ⟨_, _, _, _, _, _⟩) (v := ?_) rfl (by kernel_rfl) (by kernel_rfl) (by kernel_rfl) (fun _ _ _ h => h) (Or.inl ⟨by rfl, ?_⟩) hHeld ?_
              rotate_left
              · (intro w hSw; (try dsimp only at hSw); obtain ⟨q0, q1, q2, q3⟩ := (hn4.below hSw).c4; obtain ⟨p0, p1⟩ := (hf4.below hSw).c2; go_simp; try (with_reducible rfl))
              try simp only [Act.put, List.setIfInBounds_toArray, List.set_cons_zero, List.set_cons_succ]
              refine wpAnyH_take (i := 5) (oi := ⟨_, _, _, _, _, _⟩) (v := ?_) rfl (by kernel_rfl) (by kernel_rfl) (by kernel_rfl) (fun _ _ _ h => h) (Or.inl ⟨by rfl, ?_⟩) hHeld ?_
              rotate_left
              · (intro w hSw; (try dsimp only at hSw); go_simp; try (with_reducible rfl))
              try simp only [Act.put, List.setIfInBounds_toArray, List.set_cons_zero, List.set_cons_succ]
              refine wpAnyH_take (i := 6) (oi := ⟨_, _, _, _, _, _⟩) (v := ?_) rfl (by kernel_rfl) (by kernel_rfl) (by kernel_rfl) (fun _ _ _ h => h) (Or.inl ⟨by rfl, ?_⟩) hHeld ?_
              rotate_left
              · (intro w hSw; (try dsimp only at hSw); obtain ⟨q0, q1, q2, q3⟩ := (hn4.below hSw).c4; obtain ⟨p0, p1⟩ := (hf4.below hSw).c2; go_simp; try (with_reducible rfl))
              try simp only [Act.put, List.setIfInBounds_toArray, List.set_cons_zero, List.set_cons_succ]
              refine wpAnyH_take (i := 9) (oi := ⟨_, _, _, _, _, _⟩) (v := ?_) rfl (by kernel_rfl) (by kernel_rfl) (by kernel_rfl) (fun _ _ _ h => h) (Or.inl ⟨by rfl, ?_⟩) hHeld ?_
              rotate_left
              · (intro w hSw; (try dsimp only at hSw); go_simp; try (with_reducible rfl))
              try simp only [Act.put, List.setIfInBounds_toArray, List.set_cons_zero, List.set_cons_succ]
              refine wpAnyH_ready (rs := [7]) (by kernel_rfl) (by simp) ?_
              refine AllReadyH.cons (o := ⟨_, _, _, _, _, _⟩) rfl (fun K hK => ?_) AllReadyH.nil
              go_simp
              refine (rCycle_any _ _ _ _ _ _ _ _ _ (by omega) (by omega)).mono ?_
              rintro e w' ⟨rfl, hb⟩
              go_wp2_with fail
              refine hK.out _ _ ?_ (fun hHeld2 => ?_)
              · (try dsimp only)
                (first | exact hHeld | exact hHeld.trans (hb.mono hHeld.size) | exact hHeld.trans ((below_new _ _).mono hHeld.size) | exact hHeld.drew)
              clear hK K hHeld; have hHeld := hHeld2; clear hHeld2
              try simp only [Act.put, List.setIfInBounds_toArray, List.set_cons_zero, List.set_cons_succ]
              refine wpAnyH_ready (rs := [8]) (by kernel_rfl) (by simp) ?_
              refine AllReadyH.cons (o := ⟨_, _, _, _, _, _⟩) rfl (fun K hK => ?_) AllReadyH.nil
              go_simp
              refine (rGets_any Ac Af nc cc nf cf dry days a b k _ cs fs _ (HN4.out.below hHeld) Hok.out Hcy.out k0 k1).mono ?_
              rintro e w' ⟨rfl, hb⟩
              go_wp2_with fail
              refine hK.out _ _ ?_ (fun hHeld2 => ?_)
              · (try dsimp only)
                (first | exact hHeld | exact hHeld.trans (hb.mono hHeld.size) | exact hHeld.trans ((below_new _ _).mono hHeld.size) | exact hHeld.drew)
              clear hK K hHeld; have hHeld := hHeld2; clear hHeld2
              try simp only [Act.put, List.setIfInBounds_toArray, List.set_cons_zero, List.set_cons_succ]
              refine wpAnyH_take (i := 10) (oi := ⟨_, _, _, _, _, _⟩) (v := ?_) rfl (by kernel_rfl) (by kernel_rfl) (by kernel_rfl) (fun _ _ _ h => h) (Or.inl ⟨by rfl, ?_⟩) hHeld ?_
              rotate_left
              · (intro w hSw; (try dsimp only at hSw); go_simp; try (with_reducible rfl))
              try simp only [Act.put, List.setIfInBounds_toArray, List.set_cons_zero, List.set_cons_succ]
              refine wpAnyH_take (i := 11) (oi := ⟨_, _, _, _, _, _⟩) (v := ?_) rfl (by kernel_rfl) (by kernel_rfl) (by kernel_rfl) (fun _ _ _ h => h) (Or.inl ⟨by rfl, ?_⟩) hHeld ?_
              rotate_left
              · (intro w hSw; (try dsimp only at hSw); go_simp; try (with_reducible rfl))
              try simp only [Act.put, List.setIfInBounds_toArray, List.set_cons_zero, List.set_cons_succ]
              refine wpAnyH_done (by kernel_rfl) ?_ _
              have hn5 := hn4.below hHeld
              have hf5 := hf4.below hHeld
              have hB5 := hB4.trans (hHeld.mono hB4.size)
              obtain ⟨q0, q1, q2, q3⟩ := hn5.c4
              clear hHeld
              go_wp2_with fail
              refine (rCycle_any _ _ _ _ _ _ _ _ _ (by omega) (by omega)).mono ?_
              rintro e w6 ⟨rfl, hb6⟩
              have hn6 := hn5.below hb6
              have hf6 := hf5.below hb6
              have hB6 := hB5.trans (hb6.mono hB5.size)
              clear q0 q1 q2 q3 hn4 hf4 hB4 hn5 hf5 hB5 hb6
              go_wp2_with fail
              go_loopw [10, 11] (fun x y wr => ∃ lo en : Int, x = .int .i64 lo ∧ y = .int .i64 en ∧ Below w6.heap.size w6 wr ∧ (0 ≤ lo ∧ lo ≤ en ∧ en ≤ days * 1440) ∧ Hid (lo = 0 ∨ enoughB cs fs a k want (lo - 1) = false) ∧ Hid (enoughB cs fs a k want en = true)) (fun x y _ => (intOf y - intOf x).toNat)
              case atStart => exact ⟨0, days * 1440, rfl, rfl, Below.refl _ _, ⟨by omega, by omega, by omega⟩, hide (.inl rfl), hide (Hen.out)⟩
              case round =>
                obtain ⟨lo, en, rfl, rfl, hb, ⟨b0, b1, b2⟩, hl, he⟩ := hrel
                obtain ⟨q0, q1, q2, q3⟩ := (hn6.below hb).c4
                obtain ⟨p0, p1⟩ := (hf6.below hb).c2
                by_cases hlt : lo < en
                · have hq0 : (lo + en).tdiv 2 = (lo + en) / 2 := Int.tdiv_eq_ediv_of_nonneg (by omega)
                  obtain ⟨q, hq⟩ : ∃ q, q = (lo + en) / 2 := ⟨_, rfl⟩
                  rw [← hq] at hq0
                  have hq1 : lo ≤ q ∧ q < en := by omega
                  obtain ⟨hq2, hq3⟩ := hq1
                  clear hq
                  go_wp2_with fail
                  refine (rGets_any Ac Af nc cc nf cf dry days a b k q cs fs wr (Hnet.out.below (hB6.trans (hb.mono hB6.size))) Hok.out (Hcyc.out q (by omega) (by omega)) k0 k1).mono ?_
                  rintro e w8 ⟨rfl, hb8⟩
                  cases hq5 : enoughB cs fs a k want q
                  · have hlt5 : getK cs (pathK cs fs k) (a * q) < want := by simpa [enoughB] using hq5
                    have hq5 := hide hq5
                    go_wp2_with fail
                    exact ⟨⟨q + 1, en, rfl, rfl, hb.trans (hb8.mono hb.size), ⟨by omega, by omega, by omega⟩, hide (.inr (by rw [show q + 1 - 1 = q by omega]; exact hq5.out)), he⟩, by simp [intOf]; omega⟩
                  · have hge5 : want ≤ getK cs (pathK cs fs k) (a * q) := by simpa [enoughB] using hq5
                    have hq5 := hide hq5
                    go_wp2_with fail
                    exact ⟨⟨lo, q, rfl, rfl, hb.trans (hb8.mono hb.size), ⟨by omega, by omega, by omega⟩, hl, hide hq5.out⟩, by simp [intOf]; omega⟩
                · obtain rfl : lo = en := by omega
                  go_wp2
                  go_ret2
                  exact ⟨_, _, rfl, Hs2.out lo 0 (.inr ⟨rfl, by omega, by omega, he.out, hl.out⟩), hB6.trans (hb.mono hB6.size)⟩
end Go.Proofs.Ytmbhnjpaieimbaa
