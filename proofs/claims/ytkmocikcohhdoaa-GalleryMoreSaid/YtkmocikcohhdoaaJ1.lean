/- Gallery, outright: alive() is true: the chapter's examples. -/
import Derived.Test.YtkmocikcohhdoaaJ0
set_option linter.unusedVariables false
set_option linter.unusedSimpArgs false
namespace Go.Proofs.Ytkmocikcohhdoaa
open Go.RowKit Go.Shelf
theorem gSpans (A B : Option Addr) (xs : List Sp) (n c m d : Nat) (w : World) (hx : Rd w w.heap.size Sp.cells A xs) (hy : Rd w w.heap.size Sp.cells B xs) (hn : n = xs.length) (hm : m = xs.length) (hl : xs.length ≤ 1000) :
    Calls Try.prog 25 #[.slice A n c, .slice B m d] w fun e w' => e = .returned (.bool true) ∧ Below w.heap.size w w' :=
  (same_Sp A B xs xs _ c _ d w hn hm (by omega) (by omega) hx hy).mono fun e w' h => ⟨by simpa using h.1, h.2⟩
theorem gInts (A B : Option Addr) (xs : List Int) (n c m d : Nat) (w : World) (hx : Rd w w.heap.size icell A xs) (hy : Rd w w.heap.size icell B xs) (hn : n = xs.length) (hm : m = xs.length) (hl : xs.length ≤ 1000) :
    Calls Try.prog 17 #[.slice A n c, .slice B m d] w fun e w' => e = .returned (.bool true) ∧ Below w.heap.size w w' :=
  (same_int A B xs xs _ c _ d w hn hm (by omega) (by omega) hx hy).mono fun e w' h => ⟨by simpa using h.1, h.2⟩
set_option maxHeartbeats 40000000 in
set_option maxRecDepth 100000 in
theorem galive_any (w : World) : Calls Try.prog 31 #[] w fun e w' => e = .returned (.bool true) ∧ Below w.heap.size w w' := by
  go_enter Try.func31, Try.ntmps31
  go_wp2_with fail
  refine (gspan_any _ _ _).mono ?_
  rintro e w1 ⟨rfl, h1⟩
  obtain ⟨b1, w2, e1, ew1, x1, h2, hz1⟩ := mk_bx w1 #[.int .i64 500, .int .i64 600] 24
  go_wp2_with fail
  rw [ew1.out, e1.out]
  refine (gspan_any _ _ _).mono ?_
  rintro e w3 ⟨rfl, h3⟩
  go_wp2_with fail
  refine (gspan_any _ _ _).mono ?_
  rintro e w4 ⟨rfl, h4⟩
  obtain ⟨b24, w5, e24, ew24, r24, h5⟩ := mk_row (cells := Yr.cells) w4 #[.int .i64 100, .int .i64 120, .int .i64 2000, .int .i64 200, .int .i64 200, .int .i64 505] 88 [⟨⟨100, 120⟩, 2000⟩, ⟨⟨200, 200⟩, 505⟩] rfl
  go_wp2_with fail
  rw [ew24.out, e24.out]
  refine (gspan_any _ _ _).mono ?_
  rintro e w6 ⟨rfl, h6⟩
  obtain ⟨b26, w7, e26, ew26, r26, h7⟩ := mk_row (cells := Sp.cells) w6 #[.int .i64 10, .int .i64 11] 24 [⟨10, 11⟩] rfl
  go_wp2_with fail
  rw [ew26.out, e26.out]
  refine (source_any _ _ [⟨⟨100, 120⟩, 2000⟩, ⟨⟨200, 200⟩, 505⟩] [⟨10, 11⟩] 2 2 1 1 w7 rfl (by omega) ((r24.bel h6).bel h7) rfl (by omega) r26).mono ?_
  rintro e w8 ⟨rfl, h8⟩
  rw [ex_src.1, ex_src.2]
  obtain ⟨b2, w9, e2, ew2, x2, h9, hz2⟩ := mk_bx w8 #[.int .i64 290, .int .i64 331] 24
  have c2 := h1.trans (h2.mono h1.size)
  have c4 := c2.trans ((h3.trans (h4.mono h3.size)).mono c2.size)
  have c6 := c4.trans ((h5.trans (h6.mono h5.size)).mono c4.size)
  have c8 := c6.trans ((h7.trans (h8.mono h7.size)).mono c6.size)
  have hB := c8.trans (h9.mono c8.size)
  replace x1 := ((((((x1.bel h3).bel h4).bel h5).bel h6).bel h7).bel h8).bel h9
  have Hx := hide x1; have Hy := hide x2
  clear r24 r26 h1 h2 h3 h4 h5 h6 h7 h8 h9 c2 c4 c6 c8 x1 x2 hz1 hz2
  go_wp2_with fail
  rw [ew2.out, e2.out]
  refine wp_region_held_drew (S := (fun W => Below w9.heap.size w9 W)) (by kernel_rfl) (by (try dsimp only); exact (Below.refl _ _).drew) (fun hHeld => ?_)
  generalize World.drew w9 = Wd3 at hHeld ⊢
  have hbc := Below.refl Wd3.heap.size Wd3
  refine wpAnyH_take (i := 1) (oi := ⟨_, _, _, _, _, _⟩) (v := ?_) rfl (by kernel_rfl) (by kernel_rfl) (by kernel_rfl) (fun _ _ _ h => h) (Or.inl ⟨by rfl, ?_⟩) hHeld ?_
  rotate_left
  · (intro w hSw; (try dsimp only at hSw); obtain ⟨q0, q1, _, _⟩ := (Hx.out.bel hSw).w2; go_simp; try (with_reducible rfl))
  try simp only [Act.put, List.setIfInBounds_toArray, List.set_cons_zero, List.set_cons_succ]
  refine wpAnyH_ready (rs := [0]) (by kernel_rfl) (by simp) ?_
  refine AllReadyH.cons (o := ⟨_, _, _, _, _, _⟩) rfl (fun K hK => ?_) AllReadyH.nil
  go_simp
  refine (course_any _).mono ?_
  rintro e V31 ⟨b31, rfl, o31, hb⟩
  replace o31 := o31.rdw
  go_wp2_with fail
  have hHeldN := hHeld.trans (hb.mono hHeld.size)
  have hbc := hbc.trans (hb.mono hbc.size)
  refine hK.out _ _ ?_ (fun hHeld2 => ?_)
  · exact hHeldN
  clear hK K hHeld hHeldN hb; have hHeld := hHeld2; clear hHeld2
  try simp only [Act.put, List.setIfInBounds_toArray, List.set_cons_zero, List.set_cons_succ]
  refine wpAnyH_ready (rs := [2]) (by kernel_rfl) (by simp) ?_
  refine AllReadyH.cons (o := ⟨_, _, _, _, _, _⟩) rfl (fun K hK => ?_) AllReadyH.nil
  go_simp
  refine (flows_any _ none crs ⟨500, 600⟩ [] 3 3 0 0 _ rfl (by omega) o31.rdw rfl (by omega) (Rd.nil _ _ _ _)).mono ?_
  rintro e V33 ⟨v1, v2, rfl, o1, o2, hb⟩
  simp only [ex_fl1.1, ex_fl1.2.1, ex_fl1.2.2] at o1 o2 ⊢
  obtain ⟨A33, c33, rfl, r33⟩ := o1.rdn 4 rfl
  obtain ⟨B33, d33, rfl, s33⟩ := o2.rdn 3 rfl
  clear o1 o2
  go_wp2_with fail
  have hHeldN := hHeld.trans (hb.mono hHeld.size)
  have o31 := o31.bel hb
  have hbc := hbc.trans (hb.mono hbc.size)
  refine hK.out _ _ ?_ (fun hHeld2 => ?_)
  · exact hHeldN
  clear hK K hHeld hHeldN hb; have hHeld := hHeld2; clear hHeld2
  try simp only [Act.put, List.setIfInBounds_toArray, List.set_cons_zero, List.set_cons_succ]
  refine wpAnyH_take (i := 3) (oi := ⟨_, _, _, _, _, _⟩) (v := ?_) rfl (by kernel_rfl) (by kernel_rfl) (by kernel_rfl) (fun _ _ _ h => h) (Or.inl ⟨by rfl, ?_⟩) hHeld ?_
  rotate_left
  · (intro w hSw; (try dsimp only at hSw); go_simp; try (with_reducible rfl))
  try simp only [Act.put, List.setIfInBounds_toArray, List.set_cons_zero, List.set_cons_succ]
  refine wpAnyH_take (i := 4) (oi := ⟨_, _, _, _, _, _⟩) (v := ?_) rfl (by kernel_rfl) (by kernel_rfl) (by kernel_rfl) (fun _ _ _ h => h) (Or.inl ⟨by rfl, ?_⟩) hHeld ?_
  rotate_left
  · (intro w hSw; (try dsimp only at hSw); go_simp; try (with_reducible rfl))
  try simp only [Act.put, List.setIfInBounds_toArray, List.set_cons_zero, List.set_cons_succ]
  refine wpAnyH_take (i := 5) (oi := ⟨_, _, _, _, _, _⟩) (v := ?_) rfl (by kernel_rfl) (by kernel_rfl) (by kernel_rfl) (fun _ _ _ h => h) (Or.inl ⟨by rfl, ?_⟩) hHeld ?_
  rotate_left
  · (intro w hSw; (try dsimp only at hSw); go_simp; try (with_reducible rfl))
  try simp only [Act.put, List.setIfInBounds_toArray, List.set_cons_zero, List.set_cons_succ]
  refine wpAnyH_take (i := 6) (oi := ⟨_, _, _, _, _, _⟩) (v := ?_) rfl (by kernel_rfl) (by kernel_rfl) (by kernel_rfl) (fun _ _ _ h => h) (Or.inl ⟨by rfl, ?_⟩) hHeld ?_
  rotate_left
  · (intro w hSw; (try dsimp only at hSw); go_simp; try (with_reducible rfl))
  try simp only [Act.put, List.setIfInBounds_toArray, List.set_cons_zero, List.set_cons_succ]
  refine wpAnyH_take (i := 7) (oi := ⟨_, _, _, _, _, _⟩) (v := ?_) rfl (by kernel_rfl) (by kernel_rfl) (by kernel_rfl) (fun _ _ _ h => h) (Or.inl ⟨by rfl, ?_⟩) hHeld ?_
  rotate_left
  · (intro w hSw; (try dsimp only at hSw); go_simp; try (with_reducible rfl))
  try simp only [Act.put, List.setIfInBounds_toArray, List.set_cons_zero, List.set_cons_succ]
  refine wpAnyH_take (i := 8) (oi := ⟨_, _, _, _, _, _⟩) (v := ?_) rfl (by kernel_rfl) (by kernel_rfl) (by kernel_rfl) (fun _ _ _ h => h) (Or.inl ⟨by rfl, ?_⟩) hHeld ?_
  rotate_left
  · (intro w hSw; (try dsimp only at hSw); go_simp; try (with_reducible rfl))
  try simp only [Act.put, List.setIfInBounds_toArray, List.set_cons_zero, List.set_cons_succ]
  refine wpAnyH_take (i := 9) (oi := ⟨_, _, _, _, _, _⟩) (v := ?_) rfl (by kernel_rfl) (by kernel_rfl) (by kernel_rfl) (fun _ _ _ h => h) (Or.inl ⟨by rfl, ?_⟩) hHeld ?_
  rotate_left
  · (intro w hSw; (try dsimp only at hSw); go_simp; try (with_reducible rfl))
  try simp only [Act.put, List.setIfInBounds_toArray, List.set_cons_zero, List.set_cons_succ]
  refine wpAnyH_done (by kernel_rfl) ?_ _
  replace hB := hB.trans (hHeld.mono hB.size)
  replace Hx := hide (Hx.out.bel hHeld); replace Hy := hide (Hy.out.bel hHeld)
  clear hHeld hbc o31
  go_wp2_with fail
  refine wp_region_held_drew (S := (fun W => Below V33.heap.size V33 W)) (by kernel_rfl) (by (try dsimp only); exact (Below.refl _ _).drew) (fun hHeld => ?_)
  generalize World.drew V33 = Wd4 at hHeld ⊢
  have r33 := r33.bel hHeld
  have s33 := s33.bel hHeld
  have hbc := Below.refl Wd4.heap.size Wd4
  refine wpAnyH_take (i := 1) (oi := ⟨_, _, _, _, _, _⟩) (v := ?_) rfl (by kernel_rfl) (by kernel_rfl) (by kernel_rfl) (fun _ _ _ h => h) (Or.inl ⟨by rfl, ?_⟩) hHeld ?_
  rotate_left
  · (intro w hSw; (try dsimp only at hSw); obtain ⟨q0, q1, _, _⟩ := (Hx.out.bel hSw).w2; go_simp; try (with_reducible rfl))
  try simp only [Act.put, List.setIfInBounds_toArray, List.set_cons_zero, List.set_cons_succ]
  refine wpAnyH_ready (rs := [0]) (by kernel_rfl) (by simp) ?_
  refine AllReadyH.cons (o := ⟨_, _, _, _, _, _⟩) rfl (fun K hK => ?_) AllReadyH.nil
  go_simp
  refine (course_any _).mono ?_
  rintro e V38 ⟨b38, rfl, o38, hb⟩
  replace o38 := o38.rdw
  go_wp2_with fail
  have hHeldN := hHeld.trans (hb.mono hHeld.size)
  have r33 := r33.bel hb
  have s33 := s33.bel hb
  have hbc := hbc.trans (hb.mono hbc.size)
  refine hK.out _ _ ?_ (fun hHeld2 => ?_)
  · exact hHeldN
  clear hK K hHeld hHeldN hb; have hHeld := hHeld2; clear hHeld2
  try simp only [Act.put, List.setIfInBounds_toArray, List.set_cons_zero, List.set_cons_succ]
  refine wpAnyH_ready (rs := [2]) (by kernel_rfl) (by simp) ?_
  refine AllReadyH.cons (o := ⟨_, _, _, _, _, _⟩) rfl (fun K hK => ?_) AllReadyH.nil
  go_simp
  refine (last_any 510 520 _).mono ?_
  rintro e V40 ⟨b40, rfl, r40, hb⟩
  go_wp2_with fail
  have hHeldN := hHeld.trans (hb.mono hHeld.size)
  have r33 := r33.bel hb
  have s33 := s33.bel hb
  have o38 := o38.bel hb
  have hbc := hbc.trans (hb.mono hbc.size)
  refine hK.out _ _ ?_ (fun hHeld2 => ?_)
  · exact hHeldN
  clear hK K hHeld hHeldN hb; have hHeld := hHeld2; clear hHeld2
  try simp only [Act.put, List.setIfInBounds_toArray, List.set_cons_zero, List.set_cons_succ]
  refine wpAnyH_ready (rs := [3]) (by kernel_rfl) (by simp) ?_
  refine AllReadyH.cons (o := ⟨_, _, _, _, _, _⟩) rfl (fun K hK => ?_) AllReadyH.nil
  go_simp
  refine (flows_any _ _ crs ⟨500, 600⟩ [⟨3, ⟨510, 520⟩⟩] 3 3 1 1 _ rfl (by omega) o38.rdw rfl (by omega) r40).mono ?_
  rintro e V41 ⟨v1, v2, rfl, o1, o2, hb⟩
  simp only [ex_fl2.1, ex_fl2.2] at o1 ⊢
  obtain ⟨A41, c41, rfl, r41⟩ := o1.rdn 4 rfl
  clear o1 o2
  go_wp2_with fail
  have hHeldN := hHeld.trans (hb.mono hHeld.size)
  have r33 := r33.bel hb
  have s33 := s33.bel hb
  have o38 := o38.bel hb
  have r40 := r40.bel hb
  have hbc := hbc.trans (hb.mono hbc.size)
  refine hK.out _ _ ?_ (fun hHeld2 => ?_)
  · exact hHeldN
  clear hK K hHeld hHeldN hb; have hHeld := hHeld2; clear hHeld2
  try simp only [Act.put, List.setIfInBounds_toArray, List.set_cons_zero, List.set_cons_succ]
  refine wpAnyH_take (i := 4) (oi := ⟨_, _, _, _, _, _⟩) (v := ?_) rfl (by kernel_rfl) (by kernel_rfl) (by kernel_rfl) (fun _ _ _ h => h) (Or.inl ⟨by rfl, ?_⟩) hHeld ?_
  rotate_left
  · (intro w hSw; (try dsimp only at hSw); go_simp; try (with_reducible rfl))
  try simp only [Act.put, List.setIfInBounds_toArray, List.set_cons_zero, List.set_cons_succ]
  refine wpAnyH_take (i := 5) (oi := ⟨_, _, _, _, _, _⟩) (v := ?_) rfl (by kernel_rfl) (by kernel_rfl) (by kernel_rfl) (fun _ _ _ h => h) (Or.inl ⟨by rfl, ?_⟩) hHeld ?_
  rotate_left
  · (intro w hSw; (try dsimp only at hSw); go_simp; try (with_reducible rfl))
  try simp only [Act.put, List.setIfInBounds_toArray, List.set_cons_zero, List.set_cons_succ]
  refine wpAnyH_take (i := 6) (oi := ⟨_, _, _, _, _, _⟩) (v := ?_) rfl (by kernel_rfl) (by kernel_rfl) (by kernel_rfl) (fun _ _ _ h => h) (Or.inl ⟨by rfl, ?_⟩) hHeld ?_
  rotate_left
  · (intro w hSw; (try dsimp only at hSw); go_simp; try (with_reducible rfl))
  try simp only [Act.put, List.setIfInBounds_toArray, List.set_cons_zero, List.set_cons_succ]
  refine wpAnyH_take (i := 7) (oi := ⟨_, _, _, _, _, _⟩) (v := ?_) rfl (by kernel_rfl) (by kernel_rfl) (by kernel_rfl) (fun _ _ _ h => h) (Or.inl ⟨by rfl, ?_⟩) hHeld ?_
  rotate_left
  · (intro w hSw; (try dsimp only at hSw); go_simp; try (with_reducible rfl))
  try simp only [Act.put, List.setIfInBounds_toArray, List.set_cons_zero, List.set_cons_succ]
  refine wpAnyH_take (i := 8) (oi := ⟨_, _, _, _, _, _⟩) (v := ?_) rfl (by kernel_rfl) (by kernel_rfl) (by kernel_rfl) (fun _ _ _ h => h) (Or.inl ⟨by rfl, ?_⟩) hHeld ?_
  rotate_left
  · (intro w hSw; (try dsimp only at hSw); go_simp; try (with_reducible rfl))
  try simp only [Act.put, List.setIfInBounds_toArray, List.set_cons_zero, List.set_cons_succ]
  refine wpAnyH_take (i := 9) (oi := ⟨_, _, _, _, _, _⟩) (v := ?_) rfl (by kernel_rfl) (by kernel_rfl) (by kernel_rfl) (fun _ _ _ h => h) (Or.inl ⟨by rfl, ?_⟩) hHeld ?_
  rotate_left
  · (intro w hSw; (try dsimp only at hSw); go_simp; try (with_reducible rfl))
  try simp only [Act.put, List.setIfInBounds_toArray, List.set_cons_zero, List.set_cons_succ]
  refine wpAnyH_take (i := 10) (oi := ⟨_, _, _, _, _, _⟩) (v := ?_) rfl (by kernel_rfl) (by kernel_rfl) (by kernel_rfl) (fun _ _ _ h => h) (Or.inl ⟨by rfl, ?_⟩) hHeld ?_
  rotate_left
  · (intro w hSw; (try dsimp only at hSw); go_simp; try (with_reducible rfl))
  try simp only [Act.put, List.setIfInBounds_toArray, List.set_cons_zero, List.set_cons_succ]
  refine wpAnyH_done (by kernel_rfl) ?_ _
  replace hB := hB.trans (hHeld.mono hB.size)
  replace Hx := hide (Hx.out.bel hHeld); replace Hy := hide (Hy.out.bel hHeld)
  clear hHeld hbc o38 r40
  go_wp2_with fail
  refine wp_region_held_drew (S := (fun W => Below V41.heap.size V41 W)) (by kernel_rfl) (by (try dsimp only); exact (Below.refl _ _).drew) (fun hHeld => ?_)
  generalize World.drew V41 = Wd5 at hHeld ⊢
  have r33 := r33.bel hHeld
  have s33 := s33.bel hHeld
  have r41 := r41.bel hHeld
  have hbc := Below.refl Wd5.heap.size Wd5
  refine wpAnyH_take (i := 1) (oi := ⟨_, _, _, _, _, _⟩) (v := ?_) rfl (by kernel_rfl) (by kernel_rfl) (by kernel_rfl) (fun _ _ _ h => h) (Or.inl ⟨by rfl, ?_⟩) hHeld ?_
  rotate_left
  · (intro w hSw; (try dsimp only at hSw); obtain ⟨q0, q1, _, _⟩ := (Hx.out.bel hSw).w2; go_simp; try (with_reducible rfl))
  try simp only [Act.put, List.setIfInBounds_toArray, List.set_cons_zero, List.set_cons_succ]
  refine wpAnyH_ready (rs := [0]) (by kernel_rfl) (by simp) ?_
  refine AllReadyH.cons (o := ⟨_, _, _, _, _, _⟩) rfl (fun K hK => ?_) AllReadyH.nil
  go_simp
  refine (course_any _).mono ?_
  rintro e V46 ⟨b46, rfl, o46, hb⟩
  replace o46 := o46.rdw
  go_wp2_with fail
  have hHeldN := hHeld.trans (hb.mono hHeld.size)
  have r33 := r33.bel hb
  have s33 := s33.bel hb
  have r41 := r41.bel hb
  have hbc := hbc.trans (hb.mono hbc.size)
  refine hK.out _ _ ?_ (fun hHeld2 => ?_)
  · exact hHeldN
  clear hK K hHeld hHeldN hb; have hHeld := hHeld2; clear hHeld2
  try simp only [Act.put, List.setIfInBounds_toArray, List.set_cons_zero, List.set_cons_succ]
  refine wpAnyH_ready (rs := [2]) (by kernel_rfl) (by simp) ?_
  refine AllReadyH.cons (o := ⟨_, _, _, _, _, _⟩) rfl (fun K hK => ?_) AllReadyH.nil
  go_simp
  refine (last_any 300 310 _).mono ?_
  rintro e V48 ⟨b48, rfl, r48, hb⟩
  go_wp2_with fail
  have hHeldN := hHeld.trans (hb.mono hHeld.size)
  have r33 := r33.bel hb
  have s33 := s33.bel hb
  have r41 := r41.bel hb
  have o46 := o46.bel hb
  have hbc := hbc.trans (hb.mono hbc.size)
  refine hK.out _ _ ?_ (fun hHeld2 => ?_)
  · exact hHeldN
  clear hK K hHeld hHeldN hb; have hHeld := hHeld2; clear hHeld2
  try simp only [Act.put, List.setIfInBounds_toArray, List.set_cons_zero, List.set_cons_succ]
  refine wpAnyH_ready (rs := [3]) (by kernel_rfl) (by simp) ?_
  refine AllReadyH.cons (o := ⟨_, _, _, _, _, _⟩) rfl (fun K hK => ?_) AllReadyH.nil
  go_simp
  refine (gspan_any _ _ _).mono ?_
  rintro e V49 ⟨rfl, hb⟩
  go_wp2_with fail
  have hHeldN := hHeld.trans (hb.mono hHeld.size)
  have r33 := r33.bel hb
  have s33 := s33.bel hb
  have r41 := r41.bel hb
  have o46 := o46.bel hb
  have r48 := r48.bel hb
  have hbc := hbc.trans (hb.mono hbc.size)
  refine hK.out _ _ ?_ (fun hHeld2 => ?_)
  · exact hHeldN
  clear hK K hHeld hHeldN hb; have hHeld := hHeld2; clear hHeld2
  try simp only [Act.put, List.setIfInBounds_toArray, List.set_cons_zero, List.set_cons_succ]
  refine wpAnyH_ready (rs := [4]) (by kernel_rfl) (by simp) ?_
  refine AllReadyH.cons (o := ⟨_, _, _, _, _, _⟩) rfl (fun K hK => ?_) AllReadyH.nil
  go_simp
  refine (falls_any _ _ crs ⟨500, 600⟩ [⟨3, ⟨300, 310⟩⟩] ⟨100, 300⟩ 3 3 1 1 _ rfl (by omega) o46.rdw rfl (by omega) r48).mono ?_
  rintro e V50 ⟨v1, rfl, o1, hb⟩
  simp only [ex_fal1.1, ex_fal1.2.1, ex_fal1.2.2.1] at o1 ⊢
  obtain ⟨A50, c50, rfl, r50⟩ := o1.rdn 2 rfl
  clear o1
  go_wp2_with fail
  have hHeldN := hHeld.trans (hb.mono hHeld.size)
  have r33 := r33.bel hb
  have s33 := s33.bel hb
  have r41 := r41.bel hb
  have o46 := o46.bel hb
  have r48 := r48.bel hb
  have hbc := hbc.trans (hb.mono hbc.size)
  refine hK.out _ _ ?_ (fun hHeld2 => ?_)
  · exact hHeldN
  clear hK K hHeld hHeldN hb; have hHeld := hHeld2; clear hHeld2
  try simp only [Act.put, List.setIfInBounds_toArray, List.set_cons_zero, List.set_cons_succ]
  refine wpAnyH_take (i := 5) (oi := ⟨_, _, _, _, _, _⟩) (v := ?_) rfl (by kernel_rfl) (by kernel_rfl) (by kernel_rfl) (fun _ _ _ h => h) (Or.inl ⟨by rfl, ?_⟩) hHeld ?_
  rotate_left
  · (intro w hSw; (try dsimp only at hSw); go_simp; try (with_reducible rfl))
  try simp only [Act.put, List.setIfInBounds_toArray, List.set_cons_zero, List.set_cons_succ]
  refine wpAnyH_take (i := 6) (oi := ⟨_, _, _, _, _, _⟩) (v := ?_) rfl (by kernel_rfl) (by kernel_rfl) (by kernel_rfl) (fun _ _ _ h => h) (Or.inl ⟨by rfl, ?_⟩) hHeld ?_
  rotate_left
  · (intro w hSw; (try dsimp only at hSw); go_simp; try (with_reducible rfl))
  try simp only [Act.put, List.setIfInBounds_toArray, List.set_cons_zero, List.set_cons_succ]
  refine wpAnyH_take (i := 7) (oi := ⟨_, _, _, _, _, _⟩) (v := ?_) rfl (by kernel_rfl) (by kernel_rfl) (by kernel_rfl) (fun _ _ _ h => h) (Or.inl ⟨by rfl, ?_⟩) hHeld ?_
  rotate_left
  · (intro w hSw; (try dsimp only at hSw); go_simp; try (with_reducible rfl))
  try simp only [Act.put, List.setIfInBounds_toArray, List.set_cons_zero, List.set_cons_succ]
  refine wpAnyH_take (i := 8) (oi := ⟨_, _, _, _, _, _⟩) (v := ?_) rfl (by kernel_rfl) (by kernel_rfl) (by kernel_rfl) (fun _ _ _ h => h) (Or.inl ⟨by rfl, ?_⟩) hHeld ?_
  rotate_left
  · (intro w hSw; (try dsimp only at hSw); go_simp; try (with_reducible rfl))
  try simp only [Act.put, List.setIfInBounds_toArray, List.set_cons_zero, List.set_cons_succ]
  refine wpAnyH_take (i := 9) (oi := ⟨_, _, _, _, _, _⟩) (v := ?_) rfl (by kernel_rfl) (by kernel_rfl) (by kernel_rfl) (fun _ _ _ h => h) (Or.inl ⟨by rfl, ?_⟩) hHeld ?_
  rotate_left
  · (intro w hSw; (try dsimp only at hSw); go_simp; try (with_reducible rfl))
  try simp only [Act.put, List.setIfInBounds_toArray, List.set_cons_zero, List.set_cons_succ]
  refine wpAnyH_take (i := 10) (oi := ⟨_, _, _, _, _, _⟩) (v := ?_) rfl (by kernel_rfl) (by kernel_rfl) (by kernel_rfl) (fun _ _ _ h => h) (Or.inl ⟨by rfl, ?_⟩) hHeld ?_
  rotate_left
  · (intro w hSw; (try dsimp only at hSw); go_simp; try (with_reducible rfl))
  try simp only [Act.put, List.setIfInBounds_toArray, List.set_cons_zero, List.set_cons_succ]
  refine wpAnyH_take (i := 11) (oi := ⟨_, _, _, _, _, _⟩) (v := ?_) rfl (by kernel_rfl) (by kernel_rfl) (by kernel_rfl) (fun _ _ _ h => h) (Or.inl ⟨by rfl, ?_⟩) hHeld ?_
  rotate_left
  · (intro w hSw; (try dsimp only at hSw); go_simp; try (with_reducible rfl))
  try simp only [Act.put, List.setIfInBounds_toArray, List.set_cons_zero, List.set_cons_succ]
  refine wpAnyH_done (by kernel_rfl) ?_ _
  replace hB := hB.trans (hHeld.mono hB.size)
  replace Hx := hide (Hx.out.bel hHeld); replace Hy := hide (Hy.out.bel hHeld)
  clear hHeld hbc o46 r48
  go_wp2_with fail
  refine wp_region_held_drew (S := (fun W => Below V50.heap.size V50 W)) (by kernel_rfl) (by (try dsimp only); exact (Below.refl _ _).drew) (fun hHeld => ?_)
  generalize World.drew V50 = Wd6 at hHeld ⊢
  have r33 := r33.bel hHeld
  have s33 := s33.bel hHeld
  have r41 := r41.bel hHeld
  have r50 := r50.bel hHeld
  have hbc := Below.refl Wd6.heap.size Wd6
  refine wpAnyH_take (i := 1) (oi := ⟨_, _, _, _, _, _⟩) (v := ?_) rfl (by kernel_rfl) (by kernel_rfl) (by kernel_rfl) (fun _ _ _ h => h) (Or.inl ⟨by rfl, ?_⟩) hHeld ?_
  rotate_left
  · (intro w hSw; (try dsimp only at hSw); obtain ⟨q0, q1, _, _⟩ := (Hx.out.bel hSw).w2; go_simp; try (with_reducible rfl))
  try simp only [Act.put, List.setIfInBounds_toArray, List.set_cons_zero, List.set_cons_succ]
  refine wpAnyH_ready (rs := [0]) (by kernel_rfl) (by simp) ?_
  refine AllReadyH.cons (o := ⟨_, _, _, _, _, _⟩) rfl (fun K hK => ?_) AllReadyH.nil
  go_simp
  refine (course_any _).mono ?_
  rintro e V55 ⟨b55, rfl, o55, hb⟩
  replace o55 := o55.rdw
  go_wp2_with fail
  have hHeldN := hHeld.trans (hb.mono hHeld.size)
  have r33 := r33.bel hb
  have s33 := s33.bel hb
  have r41 := r41.bel hb
  have r50 := r50.bel hb
  have hbc := hbc.trans (hb.mono hbc.size)
  refine hK.out _ _ ?_ (fun hHeld2 => ?_)
  · exact hHeldN
  clear hK K hHeld hHeldN hb; have hHeld := hHeld2; clear hHeld2
  try simp only [Act.put, List.setIfInBounds_toArray, List.set_cons_zero, List.set_cons_succ]
  refine wpAnyH_ready (rs := [2]) (by kernel_rfl) (by simp) ?_
  refine AllReadyH.cons (o := ⟨_, _, _, _, _, _⟩) rfl (fun K hK => ?_) AllReadyH.nil
  go_simp
  refine (last_any 300 310 _).mono ?_
  rintro e V57 ⟨b57, rfl, r57, hb⟩
  go_wp2_with fail
  have hHeldN := hHeld.trans (hb.mono hHeld.size)
  have r33 := r33.bel hb
  have s33 := s33.bel hb
  have r41 := r41.bel hb
  have r50 := r50.bel hb
  have o55 := o55.bel hb
  have hbc := hbc.trans (hb.mono hbc.size)
  refine hK.out _ _ ?_ (fun hHeld2 => ?_)
  · exact hHeldN
  clear hK K hHeld hHeldN hb; have hHeld := hHeld2; clear hHeld2
  try simp only [Act.put, List.setIfInBounds_toArray, List.set_cons_zero, List.set_cons_succ]
  refine wpAnyH_ready (rs := [3]) (by kernel_rfl) (by simp) ?_
  refine AllReadyH.cons (o := ⟨_, _, _, _, _, _⟩) rfl (fun K hK => ?_) AllReadyH.nil
  go_simp
  refine (gspan_any _ _ _).mono ?_
  rintro e V58 ⟨rfl, hb⟩
  go_wp2_with fail
  have hHeldN := hHeld.trans (hb.mono hHeld.size)
  have r33 := r33.bel hb
  have s33 := s33.bel hb
  have r41 := r41.bel hb
  have r50 := r50.bel hb
  have o55 := o55.bel hb
  have r57 := r57.bel hb
  have hbc := hbc.trans (hb.mono hbc.size)
  refine hK.out _ _ ?_ (fun hHeld2 => ?_)
  · exact hHeldN
  clear hK K hHeld hHeldN hb; have hHeld := hHeld2; clear hHeld2
  try simp only [Act.put, List.setIfInBounds_toArray, List.set_cons_zero, List.set_cons_succ]
  refine wpAnyH_ready (rs := [4]) (by kernel_rfl) (by simp) ?_
  refine AllReadyH.cons (o := ⟨_, _, _, _, _, _⟩) rfl (fun K hK => ?_) AllReadyH.nil
  go_simp
  refine (next_any _ _ crs ⟨500, 600⟩ [⟨3, ⟨300, 310⟩⟩] ⟨100, 300⟩ 3 3 1 1 _ rfl (by omega) o55.rdw rfl (by omega) r57).mono ?_
  rintro e V59 ⟨rfl, hb⟩
  simp only [ex_fal1.1, ex_fal1.2.2.2]
  go_wp2_with fail
  have hHeldN := hHeld.trans (hb.mono hHeld.size)
  have r33 := r33.bel hb
  have s33 := s33.bel hb
  have r41 := r41.bel hb
  have r50 := r50.bel hb
  have o55 := o55.bel hb
  have r57 := r57.bel hb
  have hbc := hbc.trans (hb.mono hbc.size)
  refine hK.out _ _ ?_ (fun hHeld2 => ?_)
  · exact hHeldN
  clear hK K hHeld hHeldN hb; have hHeld := hHeld2; clear hHeld2
  try simp only [Act.put, List.setIfInBounds_toArray, List.set_cons_zero, List.set_cons_succ]
  refine wpAnyH_take (i := 5) (oi := ⟨_, _, _, _, _, _⟩) (v := ?_) rfl (by kernel_rfl) (by kernel_rfl) (by kernel_rfl) (fun _ _ _ h => h) (Or.inl ⟨by rfl, ?_⟩) hHeld ?_
  rotate_left
  · (intro w hSw; (try dsimp only at hSw); go_simp; try (with_reducible rfl))
  try simp only [Act.put, List.setIfInBounds_toArray, List.set_cons_zero, List.set_cons_succ]
  refine wpAnyH_take (i := 6) (oi := ⟨_, _, _, _, _, _⟩) (v := ?_) rfl (by kernel_rfl) (by kernel_rfl) (by kernel_rfl) (fun _ _ _ h => h) (Or.inl ⟨by rfl, ?_⟩) hHeld ?_
  rotate_left
  · (intro w hSw; (try dsimp only at hSw); go_simp; try (with_reducible rfl))
  try simp only [Act.put, List.setIfInBounds_toArray, List.set_cons_zero, List.set_cons_succ]
  refine wpAnyH_take (i := 7) (oi := ⟨_, _, _, _, _, _⟩) (v := ?_) rfl (by kernel_rfl) (by kernel_rfl) (by kernel_rfl) (fun _ _ _ h => h) (Or.inl ⟨by rfl, ?_⟩) hHeld ?_
  rotate_left
  · (intro w hSw; (try dsimp only at hSw); go_simp; try (with_reducible rfl))
  try simp only [Act.put, List.setIfInBounds_toArray, List.set_cons_zero, List.set_cons_succ]
  refine wpAnyH_take (i := 8) (oi := ⟨_, _, _, _, _, _⟩) (v := ?_) rfl (by kernel_rfl) (by kernel_rfl) (by kernel_rfl) (fun _ _ _ h => h) (Or.inl ⟨by rfl, ?_⟩) hHeld ?_
  rotate_left
  · (intro w hSw; (try dsimp only at hSw); go_simp; try (with_reducible rfl))
  try simp only [Act.put, List.setIfInBounds_toArray, List.set_cons_zero, List.set_cons_succ]
  refine wpAnyH_take (i := 9) (oi := ⟨_, _, _, _, _, _⟩) (v := ?_) rfl (by kernel_rfl) (by kernel_rfl) (by kernel_rfl) (fun _ _ _ h => h) (Or.inl ⟨by rfl, ?_⟩) hHeld ?_
  rotate_left
  · (intro w hSw; (try dsimp only at hSw); go_simp; try (with_reducible rfl))
  try simp only [Act.put, List.setIfInBounds_toArray, List.set_cons_zero, List.set_cons_succ]
  refine wpAnyH_take (i := 10) (oi := ⟨_, _, _, _, _, _⟩) (v := ?_) rfl (by kernel_rfl) (by kernel_rfl) (by kernel_rfl) (fun _ _ _ h => h) (Or.inl ⟨by rfl, ?_⟩) hHeld ?_
  rotate_left
  · (intro w hSw; (try dsimp only at hSw); go_simp; try (with_reducible rfl))
  try simp only [Act.put, List.setIfInBounds_toArray, List.set_cons_zero, List.set_cons_succ]
  refine wpAnyH_take (i := 11) (oi := ⟨_, _, _, _, _, _⟩) (v := ?_) rfl (by kernel_rfl) (by kernel_rfl) (by kernel_rfl) (fun _ _ _ h => h) (Or.inl ⟨by rfl, ?_⟩) hHeld ?_
  rotate_left
  · (intro w hSw; (try dsimp only at hSw); go_simp; try (with_reducible rfl))
  try simp only [Act.put, List.setIfInBounds_toArray, List.set_cons_zero, List.set_cons_succ]
  refine wpAnyH_done (by kernel_rfl) ?_ _
  replace hB := hB.trans (hHeld.mono hB.size)
  replace Hx := hide (Hx.out.bel hHeld); replace Hy := hide (Hy.out.bel hHeld)
  clear hHeld hbc o55 r57
  go_wp2_with fail
  refine wp_region_held_drew (S := (fun W => Below V59.heap.size V59 W)) (by kernel_rfl) (by (try dsimp only); exact (Below.refl _ _).drew) (fun hHeld => ?_)
  generalize World.drew V59 = Wd7 at hHeld ⊢
  have r33 := r33.bel hHeld
  have s33 := s33.bel hHeld
  have r41 := r41.bel hHeld
  have r50 := r50.bel hHeld
  have hbc := Below.refl Wd7.heap.size Wd7
  refine wpAnyH_take (i := 1) (oi := ⟨_, _, _, _, _, _⟩) (v := ?_) rfl (by kernel_rfl) (by kernel_rfl) (by kernel_rfl) (fun _ _ _ h => h) (Or.inl ⟨by rfl, ?_⟩) hHeld ?_
  rotate_left
  · (intro w hSw; (try dsimp only at hSw); obtain ⟨q0, q1, _, _⟩ := (Hx.out.bel hSw).w2; go_simp; try (with_reducible rfl))
  try simp only [Act.put, List.setIfInBounds_toArray, List.set_cons_zero, List.set_cons_succ]
  refine wpAnyH_ready (rs := [0]) (by kernel_rfl) (by simp) ?_
  refine AllReadyH.cons (o := ⟨_, _, _, _, _, _⟩) rfl (fun K hK => ?_) AllReadyH.nil
  go_simp
  refine (blocked_any _).mono ?_
  rintro e V64 ⟨b64, rfl, r64, hb⟩
  go_wp2_with fail
  have hHeldN := hHeld.trans (hb.mono hHeld.size)
  have r33 := r33.bel hb
  have s33 := s33.bel hb
  have r41 := r41.bel hb
  have r50 := r50.bel hb
  have hbc := hbc.trans (hb.mono hbc.size)
  refine hK.out _ _ ?_ (fun hHeld2 => ?_)
  · exact hHeldN
  clear hK K hHeld hHeldN hb; have hHeld := hHeld2; clear hHeld2
  try simp only [Act.put, List.setIfInBounds_toArray, List.set_cons_zero, List.set_cons_succ]
  refine wpAnyH_ready (rs := [2]) (by kernel_rfl) (by simp) ?_
  refine AllReadyH.cons (o := ⟨_, _, _, _, _, _⟩) rfl (fun K hK => ?_) AllReadyH.nil
  go_simp
  refine (clean_any _ blk 3 3 500 600 481 _ rfl (by omega) r64).mono ?_
  rintro e V66 ⟨A66, c66, rfl, r66, hb⟩
  simp only [ex_cl1.1, ex_cl1.2] at r66 ⊢
  go_wp2_with fail
  have hHeldN := hHeld.trans (hb.mono hHeld.size)
  have r33 := r33.bel hb
  have s33 := s33.bel hb
  have r41 := r41.bel hb
  have r50 := r50.bel hb
  have r64 := r64.bel hb
  have hbc := hbc.trans (hb.mono hbc.size)
  refine hK.out _ _ ?_ (fun hHeld2 => ?_)
  · exact hHeldN
  clear hK K hHeld hHeldN hb; have hHeld := hHeld2; clear hHeld2
  try simp only [Act.put, List.setIfInBounds_toArray, List.set_cons_zero, List.set_cons_succ]
  refine wpAnyH_take (i := 3) (oi := ⟨_, _, _, _, _, _⟩) (v := ?_) rfl (by kernel_rfl) (by kernel_rfl) (by kernel_rfl) (fun _ _ _ h => h) (Or.inl ⟨by rfl, ?_⟩) hHeld ?_
  rotate_left
  · (intro w hSw; (try dsimp only at hSw); go_simp; try (with_reducible rfl))
  try simp only [Act.put, List.setIfInBounds_toArray, List.set_cons_zero, List.set_cons_succ]
  refine wpAnyH_take (i := 4) (oi := ⟨_, _, _, _, _, _⟩) (v := ?_) rfl (by kernel_rfl) (by kernel_rfl) (by kernel_rfl) (fun _ _ _ h => h) (Or.inl ⟨by rfl, ?_⟩) hHeld ?_
  rotate_left
  · (intro w hSw; (try dsimp only at hSw); go_simp; try (with_reducible rfl))
  try simp only [Act.put, List.setIfInBounds_toArray, List.set_cons_zero, List.set_cons_succ]
  refine wpAnyH_take (i := 5) (oi := ⟨_, _, _, _, _, _⟩) (v := ?_) rfl (by kernel_rfl) (by kernel_rfl) (by kernel_rfl) (fun _ _ _ h => h) (Or.inl ⟨by rfl, ?_⟩) hHeld ?_
  rotate_left
  · (intro w hSw; (try dsimp only at hSw); go_simp; try (with_reducible rfl))
  try simp only [Act.put, List.setIfInBounds_toArray, List.set_cons_zero, List.set_cons_succ]
  refine wpAnyH_take (i := 6) (oi := ⟨_, _, _, _, _, _⟩) (v := ?_) rfl (by kernel_rfl) (by kernel_rfl) (by kernel_rfl) (fun _ _ _ h => h) (Or.inl ⟨by rfl, ?_⟩) hHeld ?_
  rotate_left
  · (intro w hSw; (try dsimp only at hSw); go_simp; try (with_reducible rfl))
  try simp only [Act.put, List.setIfInBounds_toArray, List.set_cons_zero, List.set_cons_succ]
  refine wpAnyH_take (i := 7) (oi := ⟨_, _, _, _, _, _⟩) (v := ?_) rfl (by kernel_rfl) (by kernel_rfl) (by kernel_rfl) (fun _ _ _ h => h) (Or.inl ⟨by rfl, ?_⟩) hHeld ?_
  rotate_left
  · (intro w hSw; (try dsimp only at hSw); go_simp; try (with_reducible rfl))
  try simp only [Act.put, List.setIfInBounds_toArray, List.set_cons_zero, List.set_cons_succ]
  refine wpAnyH_done (by kernel_rfl) ?_ _
  replace hB := hB.trans (hHeld.mono hB.size)
  replace Hx := hide (Hx.out.bel hHeld); replace Hy := hide (Hy.out.bel hHeld)
  clear hHeld hbc r64
  go_wp2_with fail
  refine wp_region_held_drew (S := (fun W => Below V66.heap.size V66 W)) (by kernel_rfl) (by (try dsimp only); exact (Below.refl _ _).drew) (fun hHeld => ?_)
  generalize World.drew V66 = Wd8 at hHeld ⊢
  have r33 := r33.bel hHeld
  have s33 := s33.bel hHeld
  have r41 := r41.bel hHeld
  have r50 := r50.bel hHeld
  have r66 := r66.bel hHeld
  have hbc := Below.refl Wd8.heap.size Wd8
  refine wpAnyH_take (i := 0) (oi := ⟨_, _, _, _, _, _⟩) (v := ?_) rfl (by kernel_rfl) (by kernel_rfl) (by kernel_rfl) (fun _ _ _ h => h) (Or.inl ⟨by rfl, ?_⟩) hHeld ?_
  rotate_left
  · (intro w hSw; (try dsimp only at hSw); go_simp; try (with_reducible rfl))
  try simp only [Act.put, List.setIfInBounds_toArray, List.set_cons_zero, List.set_cons_succ]
  refine wpAnyH_take (i := 1) (oi := ⟨_, _, _, _, _, _⟩) (v := ?_) rfl (by kernel_rfl) (by kernel_rfl) (by kernel_rfl) (fun _ _ _ h => h) (Or.inl ⟨by rfl, ?_⟩) hHeld ?_
  rotate_left
  · (intro w hSw; (try dsimp only at hSw); go_simp; try (with_reducible rfl))
  try simp only [Act.put, List.setIfInBounds_toArray, List.set_cons_zero, List.set_cons_succ]
  refine wpAnyH_take (i := 2) (oi := ⟨_, _, _, _, _, _⟩) (v := ?_) rfl (by kernel_rfl) (by kernel_rfl) (by kernel_rfl) (fun _ _ _ h => h) (Or.inl ⟨by rfl, ?_⟩) hHeld ?_
  rotate_left
  · (intro w hSw; (try dsimp only at hSw); go_simp; try (with_reducible rfl))
  try simp only [Act.put, List.setIfInBounds_toArray, List.set_cons_zero, List.set_cons_succ]
  refine wpAnyH_take (i := 3) (oi := ⟨_, _, _, _, _, _⟩) (v := ?_) rfl (by kernel_rfl) (by kernel_rfl) (by kernel_rfl) (fun _ _ _ h => h) (Or.inl ⟨by rfl, ?_⟩) hHeld ?_
  rotate_left
  · (intro w hSw; (try dsimp only at hSw); obtain ⟨q0, q1, _, _⟩ := (Hx.out.bel hSw).w2; obtain ⟨p0, p1, _, _⟩ := (Hy.out.bel hSw).w2; go_simp; try (with_reducible rfl))
  try simp only [Act.put, List.setIfInBounds_toArray, List.set_cons_zero, List.set_cons_succ]
  refine wpAnyH_ready (rs := [4]) (by kernel_rfl) (by simp) ?_
  refine AllReadyH.cons (o := ⟨_, _, _, _, _, _⟩) rfl (fun K hK => ?_) AllReadyH.nil
  go_simp
  refine (gspan_any _ _ _).mono ?_
  rintro e V73 ⟨rfl, hb⟩
  go_wp2_with fail
  have hHeldN := hHeld.trans (hb.mono hHeld.size)
  have r33 := r33.bel hb
  have s33 := s33.bel hb
  have r41 := r41.bel hb
  have r50 := r50.bel hb
  have r66 := r66.bel hb
  have hbc := hbc.trans (hb.mono hbc.size)
  refine hK.out _ _ ?_ (fun hHeld2 => ?_)
  · exact hHeldN
  clear hK K hHeld hHeldN hb; have hHeld := hHeld2; clear hHeld2
  try simp only [Act.put, List.setIfInBounds_toArray, List.set_cons_zero, List.set_cons_succ]
  refine wpAnyH_take (i := 5) (oi := ⟨_, _, _, _, _, _⟩) (v := ?_) rfl (by kernel_rfl) (by kernel_rfl) (by kernel_rfl) (fun _ _ _ h => h) (Or.inl ⟨by rfl, ?_⟩) hHeld ?_
  rotate_left
  · (intro w hSw; (try dsimp only at hSw); go_simp; try (with_reducible rfl))
  try simp only [Act.put, List.setIfInBounds_toArray, List.set_cons_zero, List.set_cons_succ]
  refine wpAnyH_take (i := 6) (oi := ⟨_, _, _, _, _, _⟩) (v := ?_) rfl (by kernel_rfl) (by kernel_rfl) (by kernel_rfl) (fun _ _ _ h => h) (Or.inl ⟨by rfl, ?_⟩) hHeld ?_
  rotate_left
  · (intro w hSw; (try dsimp only at hSw); go_simp; try (with_reducible rfl))
  try simp only [Act.put, List.setIfInBounds_toArray, List.set_cons_zero, List.set_cons_succ]
  refine wpAnyH_take (i := 7) (oi := ⟨_, _, _, _, _, _⟩) (v := ?_) rfl (by kernel_rfl) (by kernel_rfl) (by kernel_rfl) (fun _ _ _ h => h) (Or.inl ⟨by rfl, ?_⟩) hHeld ?_
  rotate_left
  · (intro w hSw; (try dsimp only at hSw); go_simp; try (with_reducible rfl))
  try simp only [Act.put, List.setIfInBounds_toArray, List.set_cons_zero, List.set_cons_succ]
  refine wpAnyH_take (i := 8) (oi := ⟨_, _, _, _, _, _⟩) (v := ?_) rfl (by kernel_rfl) (by kernel_rfl) (by kernel_rfl) (fun _ _ _ h => h) (Or.inl ⟨by rfl, ?_⟩) hHeld ?_
  rotate_left
  · (intro w hSw; (try dsimp only at hSw); go_simp; try (with_reducible rfl))
  try simp only [Act.put, List.setIfInBounds_toArray, List.set_cons_zero, List.set_cons_succ]
  refine wpAnyH_take (i := 9) (oi := ⟨_, _, _, _, _, _⟩) (v := ?_) rfl (by kernel_rfl) (by kernel_rfl) (by kernel_rfl) (fun _ _ _ h => h) (Or.inl ⟨by rfl, ?_⟩) hHeld ?_
  rotate_left
  · (intro w hSw; (try dsimp only at hSw); go_simp; try (with_reducible rfl))
  try simp only [Act.put, List.setIfInBounds_toArray, List.set_cons_zero, List.set_cons_succ]
  refine wpAnyH_take (i := 10) (oi := ⟨_, _, _, _, _, _⟩) (v := ?_) rfl (by kernel_rfl) (by kernel_rfl) (by kernel_rfl) (fun _ _ _ h => h) (Or.inl ⟨by rfl, ?_⟩) hHeld ?_
  rotate_left
  · (intro w hSw; (try dsimp only at hSw); go_simp; try (with_reducible rfl))
  try simp only [Act.put, List.setIfInBounds_toArray, List.set_cons_zero, List.set_cons_succ]
  refine wpAnyH_take (i := 11) (oi := ⟨_, _, _, _, _, _⟩) (v := ?_) rfl (by kernel_rfl) (by kernel_rfl) (by kernel_rfl) (fun _ _ _ h => h) (Or.inl ⟨by rfl, ?_⟩) hHeld ?_
  rotate_left
  · (intro w hSw; (try dsimp only at hSw); go_simp; try (with_reducible rfl))
  try simp only [Act.put, List.setIfInBounds_toArray, List.set_cons_zero, List.set_cons_succ]
  refine wpAnyH_take (i := 12) (oi := ⟨_, _, _, _, _, _⟩) (v := ?_) rfl (by kernel_rfl) (by kernel_rfl) (by kernel_rfl) (fun _ _ _ h => h) (Or.inl ⟨by rfl, ?_⟩) hHeld ?_
  rotate_left
  · (intro w hSw; (try dsimp only at hSw); go_simp; try (with_reducible rfl))
  try simp only [Act.put, List.setIfInBounds_toArray, List.set_cons_zero, List.set_cons_succ]
  refine wpAnyH_take (i := 13) (oi := ⟨_, _, _, _, _, _⟩) (v := ?_) rfl (by kernel_rfl) (by kernel_rfl) (by kernel_rfl) (fun _ _ _ h => h) (Or.inl ⟨by rfl, ?_⟩) hHeld ?_
  rotate_left
  · (intro w hSw; (try dsimp only at hSw); obtain ⟨q0, q1, _, _⟩ := (Hx.out.bel hSw).w2; obtain ⟨p0, p1, _, _⟩ := (Hy.out.bel hSw).w2; go_simp; try (with_reducible rfl))
  try simp only [Act.put, List.setIfInBounds_toArray, List.set_cons_zero, List.set_cons_succ]
  refine wpAnyH_ready (rs := [14]) (by kernel_rfl) (by simp) ?_
  refine AllReadyH.cons (o := ⟨_, _, _, _, _, _⟩) rfl (fun K hK => ?_) AllReadyH.nil
  go_simp
  refine (gspan_any _ _ _).mono ?_
  rintro e V83 ⟨rfl, hb⟩
  go_wp2_with fail
  have hHeldN := hHeld.trans (hb.mono hHeld.size)
  have r33 := r33.bel hb
  have s33 := s33.bel hb
  have r41 := r41.bel hb
  have r50 := r50.bel hb
  have r66 := r66.bel hb
  have hbc := hbc.trans (hb.mono hbc.size)
  refine hK.out _ _ ?_ (fun hHeld2 => ?_)
  · exact hHeldN
  clear hK K hHeld hHeldN hb; have hHeld := hHeld2; clear hHeld2
  try simp only [Act.put, List.setIfInBounds_toArray, List.set_cons_zero, List.set_cons_succ]
  refine wpAnyH_ready (rs := [15]) (by kernel_rfl) (by simp) ?_
  refine AllReadyH.cons (o := ⟨_, _, _, _, _, _⟩) rfl (fun K hK => ?_) AllReadyH.nil
  go_simp
  refine (gspan_any _ _ _).mono ?_
  rintro e V84 ⟨rfl, hb⟩
  go_wp2_with fail
  have hHeldN := hHeld.trans (hb.mono hHeld.size)
  have r33 := r33.bel hb
  have s33 := s33.bel hb
  have r41 := r41.bel hb
  have r50 := r50.bel hb
  have r66 := r66.bel hb
  have hbc := hbc.trans (hb.mono hbc.size)
  refine hK.out _ _ ?_ (fun hHeld2 => ?_)
  · exact hHeldN
  clear hK K hHeld hHeldN hb; have hHeld := hHeld2; clear hHeld2
  try simp only [Act.put, List.setIfInBounds_toArray, List.set_cons_zero, List.set_cons_succ]
  refine wpAnyH_ready (rs := [16]) (by kernel_rfl) (by simp) ?_
  refine AllReadyH.cons (o := ⟨_, _, _, _, _, _⟩) rfl (fun K hK => ?_) AllReadyH.nil
  go_simp
  refine (gspan_any _ _ _).mono ?_
  rintro e V85 ⟨rfl, hb⟩
  go_wp2_with fail
  have hHeldN := hHeld.trans (hb.mono hHeld.size)
  have r33 := r33.bel hb
  have s33 := s33.bel hb
  have r41 := r41.bel hb
  have r50 := r50.bel hb
  have r66 := r66.bel hb
  have hbc := hbc.trans (hb.mono hbc.size)
  refine hK.out _ _ ?_ (fun hHeld2 => ?_)
  · exact hHeldN
  clear hK K hHeld hHeldN hb; have hHeld := hHeld2; clear hHeld2
  try simp only [Act.put, List.setIfInBounds_toArray, List.set_cons_zero, List.set_cons_succ]
  refine wpAnyH_ready (rs := [17]) (by kernel_rfl) (by simp) ?_
  refine AllReadyH.cons (o := ⟨_, _, _, _, _, _⟩) rfl (fun K hK => ?_) AllReadyH.nil
  go_simp
  obtain ⟨b86, V86, eb86, ev86, r86, hb⟩ := mk_row (cells := Sp.cells) V85 #[.int .i64 500, .int .i64 600, .int .i64 480, .int .i64 590, .int .i64 530, .int .i64 650, .int .i64 500, .int .i64 620] 24 [⟨500, 600⟩, ⟨480, 590⟩, ⟨530, 650⟩, ⟨500, 620⟩] rfl
  rw [ev86.out, eb86.out]
  have hHeldN := hHeld.trans (hb.mono hHeld.size)
  have r33 := r33.bel hb
  have s33 := s33.bel hb
  have r41 := r41.bel hb
  have r50 := r50.bel hb
  have r66 := r66.bel hb
  have hbc := hbc.trans (hb.mono hbc.size)
  refine hK.out _ _ ?_ (fun hHeld2 => ?_)
  · exact hHeldN
  clear hK K hHeld hHeldN hb; have hHeld := hHeld2; clear hHeld2
  try simp only [Act.put, List.setIfInBounds_toArray, List.set_cons_zero, List.set_cons_succ]
  refine wpAnyH_ready (rs := [18]) (by kernel_rfl) (by simp) ?_
  refine AllReadyH.cons (o := ⟨_, _, _, _, _, _⟩) rfl (fun K hK => ?_) AllReadyH.nil
  go_simp
  refine (gSpans _ _ [⟨500, 600⟩, ⟨480, 590⟩, ⟨530, 650⟩, ⟨500, 620⟩] _ _ _ _ _ r33 r86 rfl rfl (by decide)).mono ?_
  rintro e V87 ⟨rfl, hb⟩
  go_wp2_with fail
  have hHeldN := hHeld.trans (hb.mono hHeld.size)
  have r33 := r33.bel hb
  have s33 := s33.bel hb
  have r41 := r41.bel hb
  have r50 := r50.bel hb
  have r66 := r66.bel hb
  have r86 := r86.bel hb
  have hbc := hbc.trans (hb.mono hbc.size)
  refine hK.out _ _ ?_ (fun hHeld2 => ?_)
  · exact hHeldN
  clear hK K hHeld hHeldN hb; have hHeld := hHeld2; clear hHeld2
  try simp only [Act.put, List.setIfInBounds_toArray, List.set_cons_zero, List.set_cons_succ]
  refine wpAnyH_take (i := 19) (oi := ⟨_, _, _, _, _, _⟩) (v := ?_) rfl (by kernel_rfl) (by kernel_rfl) (by kernel_rfl) (fun _ _ _ h => h) (Or.inl ⟨by rfl, ?_⟩) hHeld ?_
  rotate_left
  · (intro w hSw; (try dsimp only at hSw); go_simp; try (with_reducible rfl))
  try simp only [Act.put, List.setIfInBounds_toArray, List.set_cons_zero, List.set_cons_succ]
  refine wpAnyH_take (i := 20) (oi := ⟨_, _, _, _, _, _⟩) (v := ?_) rfl (by kernel_rfl) (by kernel_rfl) (by kernel_rfl) (fun _ _ _ h => h) (Or.inl ⟨by rfl, ?_⟩) hHeld ?_
  rotate_left
  · (intro w hSw; (try dsimp only at hSw); go_simp; try (with_reducible rfl))
  try simp only [Act.put, List.setIfInBounds_toArray, List.set_cons_zero, List.set_cons_succ]
  refine wpAnyH_take (i := 21) (oi := ⟨_, _, _, _, _, _⟩) (v := ?_) rfl (by kernel_rfl) (by kernel_rfl) (by kernel_rfl) (fun _ _ _ h => h) (Or.inl ⟨by rfl, ?_⟩) hHeld ?_
  rotate_left
  · (intro w hSw; (try dsimp only at hSw); go_simp; try (with_reducible rfl))
  try simp only [Act.put, List.setIfInBounds_toArray, List.set_cons_zero, List.set_cons_succ]
  refine wpAnyH_ready (rs := [22]) (by kernel_rfl) (by simp) ?_
  refine AllReadyH.cons (o := ⟨_, _, _, _, _, _⟩) rfl (fun K hK => ?_) AllReadyH.nil
  go_simp
  refine (gspan_any _ _ _).mono ?_
  rintro e V91 ⟨rfl, hb⟩
  go_wp2_with fail
  have hHeldN := hHeld.trans (hb.mono hHeld.size)
  have r33 := r33.bel hb
  have s33 := s33.bel hb
  have r41 := r41.bel hb
  have r50 := r50.bel hb
  have r66 := r66.bel hb
  have r86 := r86.bel hb
  have hbc := hbc.trans (hb.mono hbc.size)
  refine hK.out _ _ ?_ (fun hHeld2 => ?_)
  · exact hHeldN
  clear hK K hHeld hHeldN hb; have hHeld := hHeld2; clear hHeld2
  try simp only [Act.put, List.setIfInBounds_toArray, List.set_cons_zero, List.set_cons_succ]
  refine wpAnyH_ready (rs := [23]) (by kernel_rfl) (by simp) ?_
  refine AllReadyH.cons (o := ⟨_, _, _, _, _, _⟩) rfl (fun K hK => ?_) AllReadyH.nil
  go_simp
  refine (gspan_any _ _ _).mono ?_
  rintro e V92 ⟨rfl, hb⟩
  go_wp2_with fail
  have hHeldN := hHeld.trans (hb.mono hHeld.size)
  have r33 := r33.bel hb
  have s33 := s33.bel hb
  have r41 := r41.bel hb
  have r50 := r50.bel hb
  have r66 := r66.bel hb
  have r86 := r86.bel hb
  have hbc := hbc.trans (hb.mono hbc.size)
  refine hK.out _ _ ?_ (fun hHeld2 => ?_)
  · exact hHeldN
  clear hK K hHeld hHeldN hb; have hHeld := hHeld2; clear hHeld2
  try simp only [Act.put, List.setIfInBounds_toArray, List.set_cons_zero, List.set_cons_succ]
  refine wpAnyH_ready (rs := [24]) (by kernel_rfl) (by simp) ?_
  refine AllReadyH.cons (o := ⟨_, _, _, _, _, _⟩) rfl (fun K hK => ?_) AllReadyH.nil
  go_simp
  refine (gspan_any _ _ _).mono ?_
  rintro e V93 ⟨rfl, hb⟩
  go_wp2_with fail
  have hHeldN := hHeld.trans (hb.mono hHeld.size)
  have r33 := r33.bel hb
  have s33 := s33.bel hb
  have r41 := r41.bel hb
  have r50 := r50.bel hb
  have r66 := r66.bel hb
  have r86 := r86.bel hb
  have hbc := hbc.trans (hb.mono hbc.size)
  refine hK.out _ _ ?_ (fun hHeld2 => ?_)
  · exact hHeldN
  clear hK K hHeld hHeldN hb; have hHeld := hHeld2; clear hHeld2
  try simp only [Act.put, List.setIfInBounds_toArray, List.set_cons_zero, List.set_cons_succ]
  refine wpAnyH_ready (rs := [25]) (by kernel_rfl) (by simp) ?_
  refine AllReadyH.cons (o := ⟨_, _, _, _, _, _⟩) rfl (fun K hK => ?_) AllReadyH.nil
  go_simp
  obtain ⟨b94, V94, eb94, ev94, r94, hb⟩ := mk_row (cells := Sp.cells) V93 #[.int .i64 10, .int .i64 20, .int .i64 0, .int .i64 0, .int .i64 30, .int .i64 30] 24 [⟨10, 20⟩, ⟨0, 0⟩, ⟨30, 30⟩] rfl
  rw [ev94.out, eb94.out]
  have hHeldN := hHeld.trans (hb.mono hHeld.size)
  have r33 := r33.bel hb
  have s33 := s33.bel hb
  have r41 := r41.bel hb
  have r50 := r50.bel hb
  have r66 := r66.bel hb
  have r86 := r86.bel hb
  have hbc := hbc.trans (hb.mono hbc.size)
  refine hK.out _ _ ?_ (fun hHeld2 => ?_)
  · exact hHeldN
  clear hK K hHeld hHeldN hb; have hHeld := hHeld2; clear hHeld2
  try simp only [Act.put, List.setIfInBounds_toArray, List.set_cons_zero, List.set_cons_succ]
  refine wpAnyH_ready (rs := [26]) (by kernel_rfl) (by simp) ?_
  refine AllReadyH.cons (o := ⟨_, _, _, _, _, _⟩) rfl (fun K hK => ?_) AllReadyH.nil
  go_simp
  refine (gSpans _ _ [⟨10, 20⟩, ⟨0, 0⟩, ⟨30, 30⟩] _ _ _ _ _ s33 r94 rfl rfl (by decide)).mono ?_
  rintro e V95 ⟨rfl, hb⟩
  go_wp2_with fail
  have hHeldN := hHeld.trans (hb.mono hHeld.size)
  have r33 := r33.bel hb
  have s33 := s33.bel hb
  have r41 := r41.bel hb
  have r50 := r50.bel hb
  have r66 := r66.bel hb
  have r86 := r86.bel hb
  have r94 := r94.bel hb
  have hbc := hbc.trans (hb.mono hbc.size)
  refine hK.out _ _ ?_ (fun hHeld2 => ?_)
  · exact hHeldN
  clear hK K hHeld hHeldN hb; have hHeld := hHeld2; clear hHeld2
  try simp only [Act.put, List.setIfInBounds_toArray, List.set_cons_zero, List.set_cons_succ]
  refine wpAnyH_take (i := 27) (oi := ⟨_, _, _, _, _, _⟩) (v := ?_) rfl (by kernel_rfl) (by kernel_rfl) (by kernel_rfl) (fun _ _ _ h => h) (Or.inl ⟨by rfl, ?_⟩) hHeld ?_
  rotate_left
  · (intro w hSw; (try dsimp only at hSw); go_simp; try (with_reducible rfl))
  try simp only [Act.put, List.setIfInBounds_toArray, List.set_cons_zero, List.set_cons_succ]
  refine wpAnyH_take (i := 28) (oi := ⟨_, _, _, _, _, _⟩) (v := ?_) rfl (by kernel_rfl) (by kernel_rfl) (by kernel_rfl) (fun _ _ _ h => h) (Or.inl ⟨by rfl, ?_⟩) hHeld ?_
  rotate_left
  · (intro w hSw; (try dsimp only at hSw); go_simp; try (with_reducible rfl))
  try simp only [Act.put, List.setIfInBounds_toArray, List.set_cons_zero, List.set_cons_succ]
  refine wpAnyH_take (i := 29) (oi := ⟨_, _, _, _, _, _⟩) (v := ?_) rfl (by kernel_rfl) (by kernel_rfl) (by kernel_rfl) (fun _ _ _ h => h) (Or.inl ⟨by rfl, ?_⟩) hHeld ?_
  rotate_left
  · (intro w hSw; (try dsimp only at hSw); go_simp; try (with_reducible rfl))
  try simp only [Act.put, List.setIfInBounds_toArray, List.set_cons_zero, List.set_cons_succ]
  refine wpAnyH_take (i := 30) (oi := ⟨_, _, _, _, _, _⟩) (v := ?_) rfl (by kernel_rfl) (by kernel_rfl) (by kernel_rfl) (fun _ _ _ h => h) (Or.inl ⟨by rfl, ?_⟩) hHeld ?_
  rotate_left
  · (intro w hSw; (try dsimp only at hSw); go_simp; try (with_reducible rfl))
  try simp only [Act.put, List.setIfInBounds_toArray, List.set_cons_zero, List.set_cons_succ]
  refine wpAnyH_take (i := 31) (oi := ⟨_, _, _, _, _, _⟩) (v := ?_) rfl (by kernel_rfl) (by kernel_rfl) (by kernel_rfl) (fun _ _ _ h => h) (Or.inl ⟨by rfl, ?_⟩) hHeld ?_
  rotate_left
  · (intro w hSw; (try dsimp only at hSw); go_simp; try (with_reducible rfl))
  try simp only [Act.put, List.setIfInBounds_toArray, List.set_cons_zero, List.set_cons_succ]
  refine wpAnyH_take (i := 32) (oi := ⟨_, _, _, _, _, _⟩) (v := ?_) rfl (by kernel_rfl) (by kernel_rfl) (by kernel_rfl) (fun _ _ _ h => h) (Or.inl ⟨by rfl, ?_⟩) hHeld ?_
  rotate_left
  · (intro w hSw; (try dsimp only at hSw); go_simp; try (with_reducible rfl))
  try simp only [Act.put, List.setIfInBounds_toArray, List.set_cons_zero, List.set_cons_succ]
  refine wpAnyH_take (i := 33) (oi := ⟨_, _, _, _, _, _⟩) (v := ?_) rfl (by kernel_rfl) (by kernel_rfl) (by kernel_rfl) (fun _ _ _ h => h) (Or.inl ⟨by rfl, ?_⟩) hHeld ?_
  rotate_left
  · (intro w hSw; (try dsimp only at hSw); go_simp; try (with_reducible rfl))
  try simp only [Act.put, List.setIfInBounds_toArray, List.set_cons_zero, List.set_cons_succ]
  refine wpAnyH_ready (rs := [34]) (by kernel_rfl) (by simp) ?_
  refine AllReadyH.cons (o := ⟨_, _, _, _, _, _⟩) rfl (fun K hK => ?_) AllReadyH.nil
  go_simp
  refine (gspan_any _ _ _).mono ?_
  rintro e V103 ⟨rfl, hb⟩
  go_wp2_with fail
  have hHeldN := hHeld.trans (hb.mono hHeld.size)
  have r33 := r33.bel hb
  have s33 := s33.bel hb
  have r41 := r41.bel hb
  have r50 := r50.bel hb
  have r66 := r66.bel hb
  have r86 := r86.bel hb
  have r94 := r94.bel hb
  have hbc := hbc.trans (hb.mono hbc.size)
  refine hK.out _ _ ?_ (fun hHeld2 => ?_)
  · exact hHeldN
  clear hK K hHeld hHeldN hb; have hHeld := hHeld2; clear hHeld2
  try simp only [Act.put, List.setIfInBounds_toArray, List.set_cons_zero, List.set_cons_succ]
  refine wpAnyH_ready (rs := [35]) (by kernel_rfl) (by simp) ?_
  refine AllReadyH.cons (o := ⟨_, _, _, _, _, _⟩) rfl (fun K hK => ?_) AllReadyH.nil
  go_simp
  refine (gspan_any _ _ _).mono ?_
  rintro e V104 ⟨rfl, hb⟩
  go_wp2_with fail
  have hHeldN := hHeld.trans (hb.mono hHeld.size)
  have r33 := r33.bel hb
  have s33 := s33.bel hb
  have r41 := r41.bel hb
  have r50 := r50.bel hb
  have r66 := r66.bel hb
  have r86 := r86.bel hb
  have r94 := r94.bel hb
  have hbc := hbc.trans (hb.mono hbc.size)
  refine hK.out _ _ ?_ (fun hHeld2 => ?_)
  · exact hHeldN
  clear hK K hHeld hHeldN hb; have hHeld := hHeld2; clear hHeld2
  try simp only [Act.put, List.setIfInBounds_toArray, List.set_cons_zero, List.set_cons_succ]
  refine wpAnyH_ready (rs := [36]) (by kernel_rfl) (by simp) ?_
  refine AllReadyH.cons (o := ⟨_, _, _, _, _, _⟩) rfl (fun K hK => ?_) AllReadyH.nil
  go_simp
  refine (gspan_any _ _ _).mono ?_
  rintro e V105 ⟨rfl, hb⟩
  go_wp2_with fail
  have hHeldN := hHeld.trans (hb.mono hHeld.size)
  have r33 := r33.bel hb
  have s33 := s33.bel hb
  have r41 := r41.bel hb
  have r50 := r50.bel hb
  have r66 := r66.bel hb
  have r86 := r86.bel hb
  have r94 := r94.bel hb
  have hbc := hbc.trans (hb.mono hbc.size)
  refine hK.out _ _ ?_ (fun hHeld2 => ?_)
  · exact hHeldN
  clear hK K hHeld hHeldN hb; have hHeld := hHeld2; clear hHeld2
  try simp only [Act.put, List.setIfInBounds_toArray, List.set_cons_zero, List.set_cons_succ]
  refine wpAnyH_ready (rs := [37]) (by kernel_rfl) (by simp) ?_
  refine AllReadyH.cons (o := ⟨_, _, _, _, _, _⟩) rfl (fun K hK => ?_) AllReadyH.nil
  go_simp
  refine (gspan_any _ _ _).mono ?_
  rintro e V106 ⟨rfl, hb⟩
  go_wp2_with fail
  have hHeldN := hHeld.trans (hb.mono hHeld.size)
  have r33 := r33.bel hb
  have s33 := s33.bel hb
  have r41 := r41.bel hb
  have r50 := r50.bel hb
  have r66 := r66.bel hb
  have r86 := r86.bel hb
  have r94 := r94.bel hb
  have hbc := hbc.trans (hb.mono hbc.size)
  refine hK.out _ _ ?_ (fun hHeld2 => ?_)
  · exact hHeldN
  clear hK K hHeld hHeldN hb; have hHeld := hHeld2; clear hHeld2
  try simp only [Act.put, List.setIfInBounds_toArray, List.set_cons_zero, List.set_cons_succ]
  refine wpAnyH_ready (rs := [38]) (by kernel_rfl) (by simp) ?_
  refine AllReadyH.cons (o := ⟨_, _, _, _, _, _⟩) rfl (fun K hK => ?_) AllReadyH.nil
  go_simp
  obtain ⟨b107, V107, eb107, ev107, r107, hb⟩ := mk_row (cells := Sp.cells) V106 #[.int .i64 500, .int .i64 520, .int .i64 480, .int .i64 500, .int .i64 540, .int .i64 550, .int .i64 510, .int .i64 520] 24 [⟨500, 520⟩, ⟨480, 500⟩, ⟨540, 550⟩, ⟨510, 520⟩] rfl
  rw [ev107.out, eb107.out]
  have hHeldN := hHeld.trans (hb.mono hHeld.size)
  have r33 := r33.bel hb
  have s33 := s33.bel hb
  have r41 := r41.bel hb
  have r50 := r50.bel hb
  have r66 := r66.bel hb
  have r86 := r86.bel hb
  have r94 := r94.bel hb
  have hbc := hbc.trans (hb.mono hbc.size)
  refine hK.out _ _ ?_ (fun hHeld2 => ?_)
  · exact hHeldN
  clear hK K hHeld hHeldN hb; have hHeld := hHeld2; clear hHeld2
  try simp only [Act.put, List.setIfInBounds_toArray, List.set_cons_zero, List.set_cons_succ]
  refine wpAnyH_ready (rs := [39]) (by kernel_rfl) (by simp) ?_
  refine AllReadyH.cons (o := ⟨_, _, _, _, _, _⟩) rfl (fun K hK => ?_) AllReadyH.nil
  go_simp
  refine (gSpans _ _ [⟨500, 520⟩, ⟨480, 500⟩, ⟨540, 550⟩, ⟨510, 520⟩] _ _ _ _ _ r41 r107 rfl rfl (by decide)).mono ?_
  rintro e V108 ⟨rfl, hb⟩
  go_wp2_with fail
  have hHeldN := hHeld.trans (hb.mono hHeld.size)
  have r33 := r33.bel hb
  have s33 := s33.bel hb
  have r41 := r41.bel hb
  have r50 := r50.bel hb
  have r66 := r66.bel hb
  have r86 := r86.bel hb
  have r94 := r94.bel hb
  have r107 := r107.bel hb
  have hbc := hbc.trans (hb.mono hbc.size)
  refine hK.out _ _ ?_ (fun hHeld2 => ?_)
  · exact hHeldN
  clear hK K hHeld hHeldN hb; have hHeld := hHeld2; clear hHeld2
  try simp only [Act.put, List.setIfInBounds_toArray, List.set_cons_zero, List.set_cons_succ]
  refine wpAnyH_take (i := 40) (oi := ⟨_, _, _, _, _, _⟩) (v := ?_) rfl (by kernel_rfl) (by kernel_rfl) (by kernel_rfl) (fun _ _ _ h => h) (Or.inl ⟨by rfl, ?_⟩) hHeld ?_
  rotate_left
  · (intro w hSw; (try dsimp only at hSw); go_simp; try (with_reducible rfl))
  try simp only [Act.put, List.setIfInBounds_toArray, List.set_cons_zero, List.set_cons_succ]
  refine wpAnyH_take (i := 41) (oi := ⟨_, _, _, _, _, _⟩) (v := ?_) rfl (by kernel_rfl) (by kernel_rfl) (by kernel_rfl) (fun _ _ _ h => h) (Or.inl ⟨by rfl, ?_⟩) hHeld ?_
  rotate_left
  · (intro w hSw; (try dsimp only at hSw); go_simp; try (with_reducible rfl))
  try simp only [Act.put, List.setIfInBounds_toArray, List.set_cons_zero, List.set_cons_succ]
  refine wpAnyH_take (i := 42) (oi := ⟨_, _, _, _, _, _⟩) (v := ?_) rfl (by kernel_rfl) (by kernel_rfl) (by kernel_rfl) (fun _ _ _ h => h) (Or.inl ⟨by rfl, ?_⟩) hHeld ?_
  rotate_left
  · (intro w hSw; (try dsimp only at hSw); go_simp; try (with_reducible rfl))
  try simp only [Act.put, List.setIfInBounds_toArray, List.set_cons_zero, List.set_cons_succ]
  refine wpAnyH_take (i := 43) (oi := ⟨_, _, _, _, _, _⟩) (v := ?_) rfl (by kernel_rfl) (by kernel_rfl) (by kernel_rfl) (fun _ _ _ h => h) (Or.inl ⟨by rfl, ?_⟩) hHeld ?_
  rotate_left
  · (intro w hSw; (try dsimp only at hSw); go_simp; try (with_reducible rfl))
  try simp only [Act.put, List.setIfInBounds_toArray, List.set_cons_zero, List.set_cons_succ]
  refine wpAnyH_take (i := 44) (oi := ⟨_, _, _, _, _, _⟩) (v := ?_) rfl (by kernel_rfl) (by kernel_rfl) (by kernel_rfl) (fun _ _ _ h => h) (Or.inl ⟨by rfl, ?_⟩) hHeld ?_
  rotate_left
  · (intro w hSw; (try dsimp only at hSw); go_simp; try (with_reducible rfl))
  try simp only [Act.put, List.setIfInBounds_toArray, List.set_cons_zero, List.set_cons_succ]
  refine wpAnyH_take (i := 45) (oi := ⟨_, _, _, _, _, _⟩) (v := ?_) rfl (by kernel_rfl) (by kernel_rfl) (by kernel_rfl) (fun _ _ _ h => h) (Or.inl ⟨by rfl, ?_⟩) hHeld ?_
  rotate_left
  · (intro w hSw; (try dsimp only at hSw); go_simp; try (with_reducible rfl))
  try simp only [Act.put, List.setIfInBounds_toArray, List.set_cons_zero, List.set_cons_succ]
  refine wpAnyH_take (i := 46) (oi := ⟨_, _, _, _, _, _⟩) (v := ?_) rfl (by kernel_rfl) (by kernel_rfl) (by kernel_rfl) (fun _ _ _ h => h) (Or.inl ⟨by rfl, ?_⟩) hHeld ?_
  rotate_left
  · (intro w hSw; (try dsimp only at hSw); go_simp; try (with_reducible rfl))
  try simp only [Act.put, List.setIfInBounds_toArray, List.set_cons_zero, List.set_cons_succ]
  refine wpAnyH_take (i := 47) (oi := ⟨_, _, _, _, _, _⟩) (v := ?_) rfl (by kernel_rfl) (by kernel_rfl) (by kernel_rfl) (fun _ _ _ h => h) (Or.inl ⟨by rfl, ?_⟩) hHeld ?_
  rotate_left
  · (intro w hSw; (try dsimp only at hSw); go_simp; try (with_reducible rfl))
  try simp only [Act.put, List.setIfInBounds_toArray, List.set_cons_zero, List.set_cons_succ]
  refine wpAnyH_take (i := 48) (oi := ⟨_, _, _, _, _, _⟩) (v := ?_) rfl (by kernel_rfl) (by kernel_rfl) (by kernel_rfl) (fun _ _ _ h => h) (Or.inl ⟨by rfl, ?_⟩) hHeld ?_
  rotate_left
  · (intro w hSw; (try dsimp only at hSw); go_simp; try (with_reducible rfl))
  try simp only [Act.put, List.setIfInBounds_toArray, List.set_cons_zero, List.set_cons_succ]
  refine wpAnyH_take (i := 49) (oi := ⟨_, _, _, _, _, _⟩) (v := ?_) rfl (by kernel_rfl) (by kernel_rfl) (by kernel_rfl) (fun _ _ _ h => h) (Or.inl ⟨by rfl, ?_⟩) hHeld ?_
  rotate_left
  · (intro w hSw; (try dsimp only at hSw); go_simp; try (with_reducible rfl))
  try simp only [Act.put, List.setIfInBounds_toArray, List.set_cons_zero, List.set_cons_succ]
  refine wpAnyH_take (i := 50) (oi := ⟨_, _, _, _, _, _⟩) (v := ?_) rfl (by kernel_rfl) (by kernel_rfl) (by kernel_rfl) (fun _ _ _ h => h) (Or.inl ⟨by rfl, ?_⟩) hHeld ?_
  rotate_left
  · (intro w hSw; (try dsimp only at hSw); go_simp; try (with_reducible rfl))
  try simp only [Act.put, List.setIfInBounds_toArray, List.set_cons_zero, List.set_cons_succ]
  refine wpAnyH_ready (rs := [51]) (by kernel_rfl) (by simp) ?_
  refine AllReadyH.cons (o := ⟨_, _, _, _, _, _⟩) rfl (fun K hK => ?_) AllReadyH.nil
  go_simp
  obtain ⟨b120, V120, eb120, ev120, r120, hb⟩ := mk_row (cells := icell) V108 #[.int .i64 0, .int .i64 1] 3 [0, 1] rfl
  rw [ev120.out, eb120.out]
  have hHeldN := hHeld.trans (hb.mono hHeld.size)
  have r33 := r33.bel hb
  have s33 := s33.bel hb
  have r41 := r41.bel hb
  have r50 := r50.bel hb
  have r66 := r66.bel hb
  have r86 := r86.bel hb
  have r94 := r94.bel hb
  have r107 := r107.bel hb
  have hbc := hbc.trans (hb.mono hbc.size)
  refine hK.out _ _ ?_ (fun hHeld2 => ?_)
  · exact hHeldN
  clear hK K hHeld hHeldN hb; have hHeld := hHeld2; clear hHeld2
  try simp only [Act.put, List.setIfInBounds_toArray, List.set_cons_zero, List.set_cons_succ]
  refine wpAnyH_ready (rs := [52]) (by kernel_rfl) (by simp) ?_
  refine AllReadyH.cons (o := ⟨_, _, _, _, _, _⟩) rfl (fun K hK => ?_) AllReadyH.nil
  go_simp
  refine (gInts _ _ [0, 1] _ _ _ _ _ r50 r120 rfl rfl (by decide)).mono ?_
  rintro e V121 ⟨rfl, hb⟩
  go_wp2_with fail
  have hHeldN := hHeld.trans (hb.mono hHeld.size)
  have r33 := r33.bel hb
  have s33 := s33.bel hb
  have r41 := r41.bel hb
  have r50 := r50.bel hb
  have r66 := r66.bel hb
  have r86 := r86.bel hb
  have r94 := r94.bel hb
  have r107 := r107.bel hb
  have r120 := r120.bel hb
  have hbc := hbc.trans (hb.mono hbc.size)
  refine hK.out _ _ ?_ (fun hHeld2 => ?_)
  · exact hHeldN
  clear hK K hHeld hHeldN hb; have hHeld := hHeld2; clear hHeld2
  try simp only [Act.put, List.setIfInBounds_toArray, List.set_cons_zero, List.set_cons_succ]
  refine wpAnyH_take (i := 53) (oi := ⟨_, _, _, _, _, _⟩) (v := ?_) rfl (by kernel_rfl) (by kernel_rfl) (by kernel_rfl) (fun _ _ _ h => h) (Or.inl ⟨by rfl, ?_⟩) hHeld ?_
  rotate_left
  · (intro w hSw; (try dsimp only at hSw); go_simp; try (with_reducible rfl))
  try simp only [Act.put, List.setIfInBounds_toArray, List.set_cons_zero, List.set_cons_succ]
  refine wpAnyH_take (i := 54) (oi := ⟨_, _, _, _, _, _⟩) (v := ?_) rfl (by kernel_rfl) (by kernel_rfl) (by kernel_rfl) (fun _ _ _ h => h) (Or.inl ⟨by rfl, ?_⟩) hHeld ?_
  rotate_left
  · (intro w hSw; (try dsimp only at hSw); go_simp; try (with_reducible rfl))
  try simp only [Act.put, List.setIfInBounds_toArray, List.set_cons_zero, List.set_cons_succ]
  refine wpAnyH_take (i := 55) (oi := ⟨_, _, _, _, _, _⟩) (v := ?_) rfl (by kernel_rfl) (by kernel_rfl) (by kernel_rfl) (fun _ _ _ h => h) (Or.inl ⟨by rfl, ?_⟩) hHeld ?_
  rotate_left
  · (intro w hSw; (try dsimp only at hSw); go_simp; try (with_reducible rfl))
  try simp only [Act.put, List.setIfInBounds_toArray, List.set_cons_zero, List.set_cons_succ]
  refine wpAnyH_take (i := 56) (oi := ⟨_, _, _, _, _, _⟩) (v := ?_) rfl (by kernel_rfl) (by kernel_rfl) (by kernel_rfl) (fun _ _ _ h => h) (Or.inl ⟨by rfl, ?_⟩) hHeld ?_
  rotate_left
  · (intro w hSw; (try dsimp only at hSw); go_simp; try (with_reducible rfl))
  try simp only [Act.put, List.setIfInBounds_toArray, List.set_cons_zero, List.set_cons_succ]
  refine wpAnyH_take (i := 57) (oi := ⟨_, _, _, _, _, _⟩) (v := ?_) rfl (by kernel_rfl) (by kernel_rfl) (by kernel_rfl) (fun _ _ _ h => h) (Or.inl ⟨by rfl, ?_⟩) hHeld ?_
  rotate_left
  · (intro w hSw; (try dsimp only at hSw); go_simp; try (with_reducible rfl))
  try simp only [Act.put, List.setIfInBounds_toArray, List.set_cons_zero, List.set_cons_succ]
  refine wpAnyH_take (i := 58) (oi := ⟨_, _, _, _, _, _⟩) (v := ?_) rfl (by kernel_rfl) (by kernel_rfl) (by kernel_rfl) (fun _ _ _ h => h) (Or.inl ⟨by rfl, ?_⟩) hHeld ?_
  rotate_left
  · (intro w hSw; (try dsimp only at hSw); go_simp; try (with_reducible rfl))
  try simp only [Act.put, List.setIfInBounds_toArray, List.set_cons_zero, List.set_cons_succ]
  refine wpAnyH_take (i := 59) (oi := ⟨_, _, _, _, _, _⟩) (v := ?_) rfl (by kernel_rfl) (by kernel_rfl) (by kernel_rfl) (fun _ _ _ h => h) (Or.inl ⟨by rfl, ?_⟩) hHeld ?_
  rotate_left
  · (intro w hSw; (try dsimp only at hSw); go_simp; try (with_reducible rfl))
  try simp only [Act.put, List.setIfInBounds_toArray, List.set_cons_zero, List.set_cons_succ]
  refine wpAnyH_take (i := 60) (oi := ⟨_, _, _, _, _, _⟩) (v := ?_) rfl (by kernel_rfl) (by kernel_rfl) (by kernel_rfl) (fun _ _ _ h => h) (Or.inl ⟨by rfl, ?_⟩) hHeld ?_
  rotate_left
  · (intro w hSw; (try dsimp only at hSw); go_simp; try (with_reducible rfl))
  try simp only [Act.put, List.setIfInBounds_toArray, List.set_cons_zero, List.set_cons_succ]
  refine wpAnyH_take (i := 61) (oi := ⟨_, _, _, _, _, _⟩) (v := ?_) rfl (by kernel_rfl) (by kernel_rfl) (by kernel_rfl) (fun _ _ _ h => h) (Or.inl ⟨by rfl, ?_⟩) hHeld ?_
  rotate_left
  · (intro w hSw; (try dsimp only at hSw); go_simp; try (with_reducible rfl))
  try simp only [Act.put, List.setIfInBounds_toArray, List.set_cons_zero, List.set_cons_succ]
  refine wpAnyH_take (i := 62) (oi := ⟨_, _, _, _, _, _⟩) (v := ?_) rfl (by kernel_rfl) (by kernel_rfl) (by kernel_rfl) (fun _ _ _ h => h) (Or.inl ⟨by rfl, ?_⟩) hHeld ?_
  rotate_left
  · (intro w hSw; (try dsimp only at hSw); go_simp; try (with_reducible rfl))
  try simp only [Act.put, List.setIfInBounds_toArray, List.set_cons_zero, List.set_cons_succ]
  refine wpAnyH_take (i := 63) (oi := ⟨_, _, _, _, _, _⟩) (v := ?_) rfl (by kernel_rfl) (by kernel_rfl) (by kernel_rfl) (fun _ _ _ h => h) (Or.inl ⟨by rfl, ?_⟩) hHeld ?_
  rotate_left
  · (intro w hSw; (try dsimp only at hSw); go_simp; try (with_reducible rfl))
  try simp only [Act.put, List.setIfInBounds_toArray, List.set_cons_zero, List.set_cons_succ]
  refine wpAnyH_take (i := 64) (oi := ⟨_, _, _, _, _, _⟩) (v := ?_) rfl (by kernel_rfl) (by kernel_rfl) (by kernel_rfl) (fun _ _ _ h => h) (Or.inl ⟨by rfl, ?_⟩) hHeld ?_
  rotate_left
  · (intro w hSw; (try dsimp only at hSw); go_simp; try (with_reducible rfl))
  try simp only [Act.put, List.setIfInBounds_toArray, List.set_cons_zero, List.set_cons_succ]
  refine wpAnyH_take (i := 65) (oi := ⟨_, _, _, _, _, _⟩) (v := ?_) rfl (by kernel_rfl) (by kernel_rfl) (by kernel_rfl) (fun _ _ _ h => h) (Or.inl ⟨by rfl, ?_⟩) hHeld ?_
  rotate_left
  · (intro w hSw; (try dsimp only at hSw); go_simp; try (with_reducible rfl))
  try simp only [Act.put, List.setIfInBounds_toArray, List.set_cons_zero, List.set_cons_succ]
  refine wpAnyH_take (i := 66) (oi := ⟨_, _, _, _, _, _⟩) (v := ?_) rfl (by kernel_rfl) (by kernel_rfl) (by kernel_rfl) (fun _ _ _ h => h) (Or.inl ⟨by rfl, ?_⟩) hHeld ?_
  rotate_left
  · (intro w hSw; (try dsimp only at hSw); go_simp; try (with_reducible rfl))
  try simp only [Act.put, List.setIfInBounds_toArray, List.set_cons_zero, List.set_cons_succ]
  refine wpAnyH_take (i := 67) (oi := ⟨_, _, _, _, _, _⟩) (v := ?_) rfl (by kernel_rfl) (by kernel_rfl) (by kernel_rfl) (fun _ _ _ h => h) (Or.inl ⟨by rfl, ?_⟩) hHeld ?_
  rotate_left
  · (intro w hSw; (try dsimp only at hSw); go_simp; try (with_reducible rfl))
  try simp only [Act.put, List.setIfInBounds_toArray, List.set_cons_zero, List.set_cons_succ]
  refine wpAnyH_take (i := 68) (oi := ⟨_, _, _, _, _, _⟩) (v := ?_) rfl (by kernel_rfl) (by kernel_rfl) (by kernel_rfl) (fun _ _ _ h => h) (Or.inl ⟨by rfl, ?_⟩) hHeld ?_
  rotate_left
  · (intro w hSw; (try dsimp only at hSw); go_simp; try (with_reducible rfl))
  try simp only [Act.put, List.setIfInBounds_toArray, List.set_cons_zero, List.set_cons_succ]
  refine wpAnyH_take (i := 69) (oi := ⟨_, _, _, _, _, _⟩) (v := ?_) rfl (by kernel_rfl) (by kernel_rfl) (by kernel_rfl) (fun _ _ _ h => h) (Or.inl ⟨by rfl, ?_⟩) hHeld ?_
  rotate_left
  · (intro w hSw; (try dsimp only at hSw); go_simp; try (with_reducible rfl))
  try simp only [Act.put, List.setIfInBounds_toArray, List.set_cons_zero, List.set_cons_succ]
  refine wpAnyH_take (i := 70) (oi := ⟨_, _, _, _, _, _⟩) (v := ?_) rfl (by kernel_rfl) (by kernel_rfl) (by kernel_rfl) (fun _ _ _ h => h) (Or.inl ⟨by rfl, ?_⟩) hHeld ?_
  rotate_left
  · (intro w hSw; (try dsimp only at hSw); go_simp; try (with_reducible rfl))
  try simp only [Act.put, List.setIfInBounds_toArray, List.set_cons_zero, List.set_cons_succ]
  refine wpAnyH_take (i := 71) (oi := ⟨_, _, _, _, _, _⟩) (v := ?_) rfl (by kernel_rfl) (by kernel_rfl) (by kernel_rfl) (fun _ _ _ h => h) (Or.inl ⟨by rfl, ?_⟩) hHeld ?_
  rotate_left
  · (intro w hSw; (try dsimp only at hSw); go_simp; try (with_reducible rfl))
  try simp only [Act.put, List.setIfInBounds_toArray, List.set_cons_zero, List.set_cons_succ]
  refine wpAnyH_ready (rs := [72]) (by kernel_rfl) (by simp) ?_
  refine AllReadyH.cons (o := ⟨_, _, _, _, _, _⟩) rfl (fun K hK => ?_) AllReadyH.nil
  go_simp
  obtain ⟨b141, V141, eb141, ev141, r141, hb⟩ := mk_row (cells := icell) V121 #[.int .i64 0, .int .i64 2] 3 [0, 2] rfl
  rw [ev141.out, eb141.out]
  have hHeldN := hHeld.trans (hb.mono hHeld.size)
  have r33 := r33.bel hb
  have s33 := s33.bel hb
  have r41 := r41.bel hb
  have r50 := r50.bel hb
  have r66 := r66.bel hb
  have r86 := r86.bel hb
  have r94 := r94.bel hb
  have r107 := r107.bel hb
  have r120 := r120.bel hb
  have hbc := hbc.trans (hb.mono hbc.size)
  refine hK.out _ _ ?_ (fun hHeld2 => ?_)
  · exact hHeldN
  clear hK K hHeld hHeldN hb; have hHeld := hHeld2; clear hHeld2
  try simp only [Act.put, List.setIfInBounds_toArray, List.set_cons_zero, List.set_cons_succ]
  refine wpAnyH_ready (rs := [73]) (by kernel_rfl) (by simp) ?_
  refine AllReadyH.cons (o := ⟨_, _, _, _, _, _⟩) rfl (fun K hK => ?_) AllReadyH.nil
  go_simp
  refine (gInts _ _ [0, 2] _ _ _ _ _ r66 r141 rfl rfl (by decide)).mono ?_
  rintro e V142 ⟨rfl, hb⟩
  go_wp2_with fail
  have hHeldN := hHeld.trans (hb.mono hHeld.size)
  have r33 := r33.bel hb
  have s33 := s33.bel hb
  have r41 := r41.bel hb
  have r50 := r50.bel hb
  have r66 := r66.bel hb
  have r86 := r86.bel hb
  have r94 := r94.bel hb
  have r107 := r107.bel hb
  have r120 := r120.bel hb
  have r141 := r141.bel hb
  have hbc := hbc.trans (hb.mono hbc.size)
  refine hK.out _ _ ?_ (fun hHeld2 => ?_)
  · exact hHeldN
  clear hK K hHeld hHeldN hb; have hHeld := hHeld2; clear hHeld2
  try simp only [Act.put, List.setIfInBounds_toArray, List.set_cons_zero, List.set_cons_succ]
  refine wpAnyH_take (i := 74) (oi := ⟨_, _, _, _, _, _⟩) (v := ?_) rfl (by kernel_rfl) (by kernel_rfl) (by kernel_rfl) (fun _ _ _ h => h) (Or.inl ⟨by rfl, ?_⟩) hHeld ?_
  rotate_left
  · (intro w hSw; (try dsimp only at hSw); go_simp; try (with_reducible rfl))
  try simp only [Act.put, List.setIfInBounds_toArray, List.set_cons_zero, List.set_cons_succ]
  refine wpAnyH_take (i := 75) (oi := ⟨_, _, _, _, _, _⟩) (v := ?_) rfl (by kernel_rfl) (by kernel_rfl) (by kernel_rfl) (fun _ _ _ h => h) (Or.inl ⟨by rfl, ?_⟩) hHeld ?_
  rotate_left
  · (intro w hSw; (try dsimp only at hSw); go_simp; try (with_reducible rfl))
  try simp only [Act.put, List.setIfInBounds_toArray, List.set_cons_zero, List.set_cons_succ]
  refine wpAnyH_done (by kernel_rfl) ?_ _
  replace hB := hB.trans (hHeld.mono hB.size)
  clear hHeld hbc
  go_wp2_with fail
  go_ret
  exact ⟨rfl, hB⟩
end Go.Proofs.Ytkmocikcohhdoaa
