/- GalleryRains' walk: branch 1 of three. -/
import Derived.Test.YtkmocikcohhdoaaRainsA
set_option linter.unusedVariables false
set_option linter.unusedSimpArgs false
namespace Go.Proofs.Ytkmocikcohhdoaa
open Go.RowKit Go.Shelf Go.WideShapes Go.ChangeShapes Go.ChangeAt
set_option maxHeartbeats 40000000 in
set_option maxRecDepth 100000 in
theorem rains_walk1 (A A1 : Option Addr) (ys : List Yr) (ps : List Sp) (p : Sp) (n c np c1 x e : Nat) (w : World) (hny : n = ys.length) (hny2 : n ≤ 9223372036854775807) (hx : Rd w w.heap.size Yr.cells A ys)
    (hnp : np = ps.length) (hbp : np * 16 ≤ 140737488351232) (hx1 : Rd w w.heap.size Sp.cells A1 ps) (hx255 : x ≤ 255) (he : e ≤ 65535) (hbr : 0 < (srcS ys (ps ++ [p])).lo ∧ (srcS ys ps).lo < 1000000) :
    Calls Try.prog 12 #[.slice A n c, .slice A1 np c1, .int .u8 (x : Int), .int .u16 (e : Int), .agg #[.int .i64 p.lo, .int .i64 p.hi]] w fun e w' => e = .returned (.bool true) ∧ Below w.heap.size w w' := by
  obtain ⟨b9, w1, e9, ew1, hx9, hb1, hz9⟩ := mk_bx w #[.int .i64 p.lo, .int .i64 p.hi] 24
  have Hny := hide hny; have Hnp := hide hnp
  have ry := hx.bel hb1; have rp := hx1.bel hb1
  clear hny hnp hx hx1 hz9
  go_enter Try.func12, Try.ntmps12
  go_wp2_with fail
  rw [e9.out, ew1.out]
  refine (galive_any _).mono ?_
  rintro ed w2 ⟨rfl, hb2⟩
  have hB2 := hb1.trans (hb2.mono hb1.size)
  replace hx9 := hx9.bel hb2; replace ry := ry.bel hb2; replace rp := rp.bel hb2
  clear e9 ew1
  go_wp2_with fail
  refine wp_region_held_drew (S := (fun W => Below w2.heap.size w2 W)) (by kernel_rfl) (by (try dsimp only); exact (Below.refl _ _).drew) (fun hHeld => ?_)
  generalize World.drew w2 = Wd4 at hHeld ⊢
  have hbc := Below.refl Wd4.heap.size Wd4
  refine wpAnyH_take (i := 0) (oi := ⟨_, _, _, _, _, _⟩) (v := ?_) rfl (by kernel_rfl) (by kernel_rfl) (by kernel_rfl) (fun _ _ _ h => h) (Or.inl ⟨by rfl, ?_⟩) hHeld ?_
  rotate_left
  · (intro w hSw; (try dsimp only at hSw); go_simp; try (with_reducible rfl))
  try simp only [Act.put, List.setIfInBounds_toArray, List.set_cons_zero, List.set_cons_succ]
  refine wpAnyH_take (i := 2) (oi := ⟨_, _, _, _, _, _⟩) (v := ?_) rfl (by kernel_rfl) (by kernel_rfl) (by kernel_rfl) (fun _ _ _ h => h) (Or.inl ⟨by rfl, ?_⟩) hHeld ?_
  rotate_left
  · (intro w hSw; (try dsimp only at hSw); go_simp; try (with_reducible rfl))
  try simp only [Act.put, List.setIfInBounds_toArray, List.set_cons_zero, List.set_cons_succ]
  refine wpAnyH_take (i := 4) (oi := ⟨_, _, _, _, _, _⟩) (v := ?_) rfl (by kernel_rfl) (by kernel_rfl) (by kernel_rfl) (fun _ _ _ h => h) (Or.inl ⟨by rfl, ?_⟩) hHeld ?_
  rotate_left
  · (intro w hSw; (try dsimp only at hSw); obtain ⟨x0, x1, _, _⟩ := (hx9.bel hSw).w2; go_simp; try (with_reducible rfl))
  try simp only [Act.put, List.setIfInBounds_toArray, List.set_cons_zero, List.set_cons_succ]
  refine cut3 (C := fun (b29 : Nat) (v31 : Value) (b33 : Nat) (Wc4_1 : World) => (Own Wc4_1 w2.heap.size 24 2 Sp.cells (.slice (some ⟨b29, 0, none⟩) 0 0) []) ∧ (Own Wc4_1 w2.heap.size 24 2 Sp.cells v31 ps) ∧ (Rd Wc4_1 Wc4_1.heap.size Sp.cells (some ⟨b33, 0, none⟩) [p]) ∧ Below Wd4.heap.size Wd4 Wc4_1 ∧ Below w2.heap.size w2 Wc4_1) (G := ?_) ?_ ?_
  rotate_left
  · intro hCut
    replace hbc := Below.refl Wd4.heap.size Wd4
    refine wpAnyH_ready (rs := [1, 5]) (by kernel_rfl) (by simp) ?_
    refine AllReadyH.cons (o := ⟨_, _, _, _, _, _⟩) rfl (fun K hK => ?_) ?_
    ·
      go_simp
      obtain ⟨b29, V29, eb29, ev29, o29, hb⟩ := mk_own (cells := Sp.cells) Wd4 #[] 24 2 [] Sp.len rfl (by decide) w2.heap.size hHeld.size
      rw [ev29.out, eb29.out]
      have hHeldN := hHeld.trans (hb.mono hHeld.size)
      have hbc := hbc.trans (hb.mono hbc.size)
      refine hK.out _ _ ?_ (fun hHeld2 => ?_)
      · exact hHeldN
      clear hK K hHeldN hb; have hHeld := hHeld2; clear hHeld2
      try simp only [Act.put, List.setIfInBounds_toArray, List.set_cons_zero, List.set_cons_succ]
      refine wpAnyH_ready (rs := [3, 5]) (by kernel_rfl) (by simp) ?_
      refine AllReadyH.cons (o := ⟨_, _, _, _, _, _⟩) rfl (fun K hK => ?_) ?_
      ·
        refine op_freshB el_sp (.tmp 29) (.tmp 30) rfl rfl o29 Hnp.out.symm rfl ((rp.below hHeld).more hHeld.size) (by decide) (by omega) hHeld.size ?_
        intro v31 V31 o31 hb _
        have hHeldN := hHeld.trans (hb.mono hHeld.size)
        have o29 := o29.bel hb
        have hbc := hbc.trans (hb.mono hbc.size)
        refine hK.out _ _ ?_ (fun hHeld2 => ?_)
        · exact hHeldN
        clear hK K hHeldN hb; have hHeld := hHeld2; clear hHeld2
        try simp only [Act.put, List.setIfInBounds_toArray, List.set_cons_zero, List.set_cons_succ]
        refine wpAnyH_ready (rs := [5]) (by kernel_rfl) (by simp) ?_
        refine AllReadyH.cons (o := ⟨_, _, _, _, _, _⟩) rfl (fun K hK => ?_) AllReadyH.nil
        go_simp
        obtain ⟨b33, V33, eb33, ev33, r33, hb⟩ := mk_row (cells := Sp.cells) V31 #[.int .i64 p.lo, .int .i64 p.hi] 24 [p] rfl
        rw [ev33.out, eb33.out]
        have hHeldN := hHeld.trans (hb.mono hHeld.size)
        have o29 := o29.bel hb
        have o31 := o31.bel hb
        have hbc := hbc.trans (hb.mono hbc.size)
        refine hK.out _ _ ?_ (fun hHeld2 => ?_)
        · exact hHeldN
        clear hK K hHeldN hb; have hHeld := hHeld2; clear hHeld2
        try simp only [Act.put, List.setIfInBounds_toArray, List.set_cons_zero, List.set_cons_succ]
        exact hCut b29 v31 b33 V33 ⟨o29, o31, r33, hbc, hHeld⟩
      refine AllReadyH.cons (o := ⟨_, _, _, _, _, _⟩) rfl (fun K hK => ?_) AllReadyH.nil
      go_simp
      obtain ⟨b33, V33, eb33, ev33, r33, hb⟩ := mk_row (cells := Sp.cells) V29 #[.int .i64 p.lo, .int .i64 p.hi] 24 [p] rfl
      rw [ev33.out, eb33.out]
      have hHeldN := hHeld.trans (hb.mono hHeld.size)
      have o29 := o29.bel hb
      have hbc := hbc.trans (hb.mono hbc.size)
      refine hK.out _ _ ?_ (fun hHeld2 => ?_)
      · exact hHeldN
      clear hK K hHeldN hb; have hHeld := hHeld2; clear hHeld2
      try simp only [Act.put, List.setIfInBounds_toArray, List.set_cons_zero, List.set_cons_succ]
      refine wpAnyH_ready (rs := [3]) (by kernel_rfl) (by simp) ?_
      refine AllReadyH.cons (o := ⟨_, _, _, _, _, _⟩) rfl (fun K hK => ?_) AllReadyH.nil
      refine op_freshB el_sp (.tmp 29) (.tmp 30) rfl rfl o29 Hnp.out.symm rfl ((rp.below hHeld).more hHeld.size) (by decide) (by omega) hHeld.size ?_
      intro v31 V31 o31 hb _
      have hHeldN := hHeld.trans (hb.mono hHeld.size)
      have o29 := o29.bel hb
      have r33 := r33.bel hb
      have hbc := hbc.trans (hb.mono hbc.size)
      refine hK.out _ _ ?_ (fun hHeld2 => ?_)
      · exact hHeldN
      clear hK K hHeldN hb; have hHeld := hHeld2; clear hHeld2
      try simp only [Act.put, List.setIfInBounds_toArray, List.set_cons_zero, List.set_cons_succ]
      exact hCut b29 v31 b33 V31 ⟨o29, o31, r33, hbc, hHeld⟩
    refine AllReadyH.cons (o := ⟨_, _, _, _, _, _⟩) rfl (fun K hK => ?_) AllReadyH.nil
    go_simp
    obtain ⟨b33, V33, eb33, ev33, r33, hb⟩ := mk_row (cells := Sp.cells) Wd4 #[.int .i64 p.lo, .int .i64 p.hi] 24 [p] rfl
    rw [ev33.out, eb33.out]
    have hHeldN := hHeld.trans (hb.mono hHeld.size)
    have hbc := hbc.trans (hb.mono hbc.size)
    refine hK.out _ _ ?_ (fun hHeld2 => ?_)
    · exact hHeldN
    clear hK K hHeldN hb; have hHeld := hHeld2; clear hHeld2
    try simp only [Act.put, List.setIfInBounds_toArray, List.set_cons_zero, List.set_cons_succ]
    refine wpAnyH_ready (rs := [1]) (by kernel_rfl) (by simp) ?_
    refine AllReadyH.cons (o := ⟨_, _, _, _, _, _⟩) rfl (fun K hK => ?_) AllReadyH.nil
    go_simp
    obtain ⟨b29, V29, eb29, ev29, o29, hb⟩ := mk_own (cells := Sp.cells) V33 #[] 24 2 [] Sp.len rfl (by decide) w2.heap.size hHeld.size
    rw [ev29.out, eb29.out]
    have hHeldN := hHeld.trans (hb.mono hHeld.size)
    have r33 := r33.bel hb
    have hbc := hbc.trans (hb.mono hbc.size)
    refine hK.out _ _ ?_ (fun hHeld2 => ?_)
    · exact hHeldN
    clear hK K hHeldN hb; have hHeld := hHeld2; clear hHeld2
    try simp only [Act.put, List.setIfInBounds_toArray, List.set_cons_zero, List.set_cons_succ]
    refine wpAnyH_ready (rs := [3]) (by kernel_rfl) (by simp) ?_
    refine AllReadyH.cons (o := ⟨_, _, _, _, _, _⟩) rfl (fun K hK => ?_) AllReadyH.nil
    refine op_freshB el_sp (.tmp 29) (.tmp 30) rfl rfl o29 Hnp.out.symm rfl ((rp.below hHeld).more hHeld.size) (by decide) (by omega) hHeld.size ?_
    intro v31 V31 o31 hb _
    have hHeldN := hHeld.trans (hb.mono hHeld.size)
    have r33 := r33.bel hb
    have o29 := o29.bel hb
    have hbc := hbc.trans (hb.mono hbc.size)
    refine hK.out _ _ ?_ (fun hHeld2 => ?_)
    · exact hHeldN
    clear hK K hHeldN hb; have hHeld := hHeld2; clear hHeld2
    try simp only [Act.put, List.setIfInBounds_toArray, List.set_cons_zero, List.set_cons_succ]
    exact hCut b29 v31 b33 V31 ⟨o29, o31, r33, hbc, hHeld⟩
  intro b29 v31 b33 Wc4_1 ⟨o29, o31, r33, hbN, hHeldN⟩
  have hbc := hbc.trans (hbN.mono hbc.size); clear hHeld hbN; have hHeld := hHeldN; clear hHeldN
  refine wpAnyH_ready (rs := [6]) (by kernel_rfl) (by simp) ?_
  refine AllReadyH.cons (o := ⟨_, _, _, _, _, _⟩) rfl (fun K hK => ?_) AllReadyH.nil
  refine op_appB (v := v31) (xs := ps) (ys := [p]) (n := 1) el_sp (.tmp 31) (.tmp 33) rfl rfl o31 rfl rfl r33 (by decide) (by have := Hnp.out; omega) hHeld.size ?_
  intro v34 V34 o34 hg hat
  have hHeldN := own_grown o31 hHeld hg (Nat.le_refl _)
  refine hK.out _ _ ?_ (fun hHeld2 => ?_)
  · exact hHeldN
  clear hK K hHeld hHeldN hbc; have hHeld := hHeld2; clear hHeld2
  have hbc := Below.refl V34.heap.size V34
  try simp only [Act.put, List.setIfInBounds_toArray, List.set_cons_zero, List.set_cons_succ]
  refine wpAnyH_ready (rs := [7]) (by kernel_rfl) (by simp) ?_
  refine AllReadyH.cons (o := ⟨_, _, _, _, _, _⟩) rfl (fun K hK => ?_) AllReadyH.nil
  obtain ⟨A34, c34, rfl, q34⟩ := o34.rdn (np + 1) (by rw [List.length_append, ← Hnp.out]; rfl)
  go_simp
  refine (years_any _ _ ys (ps ++ [p]) n c (np + 1) _ _ Hny.out hny2 ((ry.below hHeld).more hHeld.size) (by rw [List.length_append, ← Hnp.out]; rfl) (by omega) q34).mono ?_
  rintro e V35 ⟨rfl, hb⟩
  go_wp2_with fail
  have hHeldN := hHeld.trans (hb.mono hHeld.size)
  have o34 := o34.bel hb
  have hbc := hbc.trans (hb.mono hbc.size)
  refine hK.out _ _ ?_ (fun hHeld2 => ?_)
  · exact hHeldN
  clear hK K hHeld hHeldN hb; have hHeld := hHeld2; clear hHeld2
  try simp only [Act.put, List.setIfInBounds_toArray, List.set_cons_zero, List.set_cons_succ]
  refine wpAnyH_take (i := 8) (oi := ⟨_, _, _, _, _, _⟩) (v := ?_) rfl (by kernel_rfl) (by kernel_rfl) (by kernel_rfl) (fun _ _ _ h => h) (Or.inl ⟨by rfl, ?_⟩) hHeld ?_
  rotate_left
  · (intro w hSw; (try dsimp only at hSw); go_simp; try (with_reducible rfl))
  try simp only [Act.put, List.setIfInBounds_toArray, List.set_cons_zero, List.set_cons_succ]
  refine wpAnyH_done (by kernel_rfl) ?_ _
  have hB4 := hB2.trans (hHeld.mono hB2.size)
  replace hx9 := hx9.bel hHeld; replace ry := ry.bel hHeld; replace rp := rp.bel hHeld
  clear hHeld hbc hat hg q34 o34 o29 o31 r33
  obtain ⟨w3, hw3⟩ : ∃ w3, w3 = V35 := ⟨_, rfl⟩
  subst hw3
  cases hy : yearsOk ys (ps ++ [p])
  · clear hy
    go_wp2_with fail
    go_ret
    exact ⟨rfl, hB4⟩
  obtain ⟨P1, P2, P3, P4, P5, P6, P7⟩ := rains_pump hy
  have hv0 : srcV ys ps = srcS ys ps := by simp [srcV, P1]
  have he0 : srcErr ys ps = 0 := by simp [srcErr, P1]
  have hv1 : srcV ys (ps ++ [p]) = srcS ys (ps ++ [p]) := by simp [srcV, hy]
  have he1 : srcErr ys (ps ++ [p]) = 0 := by simp [srcErr, hy]
  obtain ⟨a0, a1, h0⟩ : ∃ a0 a1, srcS ys ps = ⟨a0, a1⟩ := ⟨_, _, rfl⟩
  obtain ⟨d0, d1, h1⟩ : ∃ d0 d1, srcS ys (ps ++ [p]) = ⟨d0, d1⟩ := ⟨_, _, rfl⟩
  rw [h0, h1] at P2 P3 P7
  try rw [h0] at hbr
  rw [h1] at hbr
  rw [h0] at P4 P5 P6
  dsimp only at P2 P3 P4 P5 P6 P7
  try dsimp only at hbr
  rw [h0] at hv0
  rw [h1] at hv1
  have Hv0 := hide hv0; have He0 := hide he0; have Hv1 := hide hv1; have He1 := hide he1; have HY := hide hy; have HP := hide P1; have HS := hide h0
  clear hv0 he0 hv1 he1 hy P1 h0 h1
  go_wp2_with fail
  refine (source_any A A1 ys ps n c np c1 _ Hny.out hny2 ry Hnp.out (by omega) rp).mono ?_
  rintro ed w4 ⟨rfl, hb4⟩
  rw [Hv0.out, He0.out]
  have hB5 := hB4.trans (hb4.mono hB4.size)
  replace hx9 := hx9.bel hb4; replace ry := ry.bel hb4; replace rp := rp.bel hb4
  obtain ⟨b12, w5, e12, ew12, hx12, hb5, _⟩ := mk_bx w4 #[.int .i64 a0, .int .i64 a1] 24
  have hB6 := hB5.trans (hb5.mono hB5.size)
  go_wp2_with fail
  rw [ew12.out, e12.out]
  replace hx9 := hx9.bel hb5; replace ry := ry.bel hb5; replace rp := rp.bel hb5
  clear ew12 e12 hb4 hb5
  refine wp_region_held_drew (S := (fun W => Below w5.heap.size w5 W)) (by kernel_rfl) (by (try dsimp only); exact (Below.refl _ _).drew) (fun hHeld => ?_)
  generalize World.drew w5 = Wd7 at hHeld ⊢
  have hWd7 := hHeld.size
  have hbc := Below.refl Wd7.heap.size Wd7
  refine wpAnyH_take (i := 0) (oi := ⟨_, _, _, _, _, _⟩) (v := ?_) rfl (by kernel_rfl) (by kernel_rfl) (by kernel_rfl) (fun _ _ _ h => h) (Or.inl ⟨by rfl, ?_⟩) hHeld ?_
  rotate_left
  · (intro w hSw; (try dsimp only at hSw); go_simp; try (with_reducible rfl))
  try simp only [Act.put, List.setIfInBounds_toArray, List.set_cons_zero, List.set_cons_succ]
  refine wpAnyH_take (i := 2) (oi := ⟨_, _, _, _, _, _⟩) (v := ?_) rfl (by kernel_rfl) (by kernel_rfl) (by kernel_rfl) (fun _ _ _ h => h) (Or.inl ⟨by rfl, ?_⟩) hHeld ?_
  rotate_left
  · (intro w hSw; (try dsimp only at hSw); go_simp; try (with_reducible rfl))
  try simp only [Act.put, List.setIfInBounds_toArray, List.set_cons_zero, List.set_cons_succ]
  refine wpAnyH_take (i := 4) (oi := ⟨_, _, _, _, _, _⟩) (v := ?_) rfl (by kernel_rfl) (by kernel_rfl) (by kernel_rfl) (fun _ _ _ h => h) (Or.inl ⟨by rfl, ?_⟩) hHeld ?_
  rotate_left
  · (intro w hSw; (try dsimp only at hSw); obtain ⟨x0, x1, _, _⟩ := (hx9.bel hSw).w2; go_simp; try (with_reducible rfl))
  try simp only [Act.put, List.setIfInBounds_toArray, List.set_cons_zero, List.set_cons_succ]
  refine cut6 (C := fun (b46 : Nat) (v48 : Value) (b50 : Nat) (A51 : Option Addr) (c51 : Nat) (b14 : Nat) (Wc7_1 : World) => (Bx Wc7_1 b14 [.int .i64 0, .int .i64 0]) ∧ (w5.heap.size ≤ b14) ∧ Below Wd7.heap.size Wd7 Wc7_1 ∧ Below w5.heap.size w5 Wc7_1) (G := ?_) ?_ ?_
  rotate_left
  · intro hCut
    replace hbc := Below.refl Wd7.heap.size Wd7
    refine wpAnyH_ready (rs := [1, 5, 11]) (by kernel_rfl) (by simp) ?_
    refine AllReadyH.cons (o := ⟨_, _, _, _, _, _⟩) rfl (fun K hK => ?_) ?_
    ·
      go_simp
      obtain ⟨b46, V46, eb46, ev46, o46, hb⟩ := mk_own (cells := Sp.cells) Wd7 #[] 24 2 [] Sp.len rfl (by decide) Wd7.heap.size hbc.size
      try have n46 : b46 ≠ b14 := by have := hx14.lt; have := eb46.out; omega
      rw [ev46.out, eb46.out]
      have hHeldN := hHeld.trans (hb.mono hHeld.size)
      have hbc := hbc.trans (hb.mono hbc.size)
      refine hK.out _ _ ?_ (fun hHeld2 => ?_)
      · exact hHeldN
      clear hK K hHeldN hb; have hHeld := hHeld2; clear hHeld2
      try simp only [Act.put, List.setIfInBounds_toArray, List.set_cons_zero, List.set_cons_succ]
      refine wpAnyH_ready (rs := [3, 5, 11]) (by kernel_rfl) (by simp) ?_
      refine AllReadyH.cons (o := ⟨_, _, _, _, _, _⟩) rfl (fun K hK => ?_) ?_
      ·
        refine op_freshB el_sp (.tmp 46) (.tmp 47) rfl rfl o46 Hnp.out.symm rfl ((rp.below hHeld).more hHeld.size) (by decide) (by omega) hbc.size ?_
        intro v48 V48 o48 hb hat48
        try have n14 : ¬ (some b14 = v48.ownBlock) := fun e => by (rcases hat48 with h | h <;> (rw [h] at e; have e := Option.some.inj e; have := hx14.lt; omega))
        have hHeldN := hHeld.trans (hb.mono hHeld.size)
        have o46 := o46.bel hb
        have hbc := hbc.trans (hb.mono hbc.size)
        refine hK.out _ _ ?_ (fun hHeld2 => ?_)
        · exact hHeldN
        clear hK K hHeldN hb; have hHeld := hHeld2; clear hHeld2
        try simp only [Act.put, List.setIfInBounds_toArray, List.set_cons_zero, List.set_cons_succ]
        refine wpAnyH_ready (rs := [5, 11]) (by kernel_rfl) (by simp) ?_
        refine AllReadyH.cons (o := ⟨_, _, _, _, _, _⟩) rfl (fun K hK => ?_) ?_
        ·
          go_simp
          obtain ⟨b50, V50, eb50, ev50, r50, hb⟩ := mk_row (cells := Sp.cells) V48 #[.int .i64 p.lo, .int .i64 p.hi] 24 [p] rfl
          rw [ev50.out, eb50.out]
          have hHeldN := hHeld.trans (hb.mono hHeld.size)
          have o46 := o46.bel hb
          have o48 := o48.bel hb
          have hbc := hbc.trans (hb.mono hbc.size)
          refine hK.out _ _ ?_ (fun hHeld2 => ?_)
          · exact hHeldN
          clear hK K hHeldN hb; have hHeld := hHeld2; clear hHeld2
          try simp only [Act.put, List.setIfInBounds_toArray, List.set_cons_zero, List.set_cons_succ]
          refine wpAnyH_ready (rs := [6, 11]) (by kernel_rfl) (by simp) ?_
          refine AllReadyH.cons (o := ⟨_, _, _, _, _, _⟩) rfl (fun K hK => ?_) ?_
          ·
            refine op_appB (v := v48) (xs := ps) (ys := [p]) (n := 1) el_sp (.tmp 48) (.tmp 50) rfl rfl o48 rfl rfl r50 (by decide) (by have := Hnp.out; omega) hbc.size ?_
            intro v51 V51 o51 hg hat
            have hHeldN := own_grown o48 hHeld hg hWd7
            refine hK.out _ _ ?_ (fun hHeld2 => ?_)
            · exact hHeldN
            have hbcN := own_grown o48 hbc hg (Nat.le_refl _)
            clear hK K hHeldN hbc; have hHeld := hHeld2; clear hHeld2
            have hbc := hbcN; clear hbcN
            try simp only [Act.put, List.setIfInBounds_toArray, List.set_cons_zero, List.set_cons_succ]
            refine wpAnyH_ready (rs := [7, 11]) (by kernel_rfl) (by simp) ?_
            refine AllReadyH.cons (o := ⟨_, _, _, _, _, _⟩) rfl (fun K hK => ?_) ?_
            ·
              obtain ⟨A51, c51, rfl, q51⟩ := o51.rdn (np + 1) (by rw [List.length_append, ← Hnp.out]; rfl)
              go_simp
              refine (source_any _ _ ys (ps ++ [p]) n c (np + 1) _ _ Hny.out hny2 ((ry.below hHeld).more hHeld.size) (by rw [List.length_append, ← Hnp.out]; rfl) (by omega) q51).mono ?_
              rintro e V52 ⟨rfl, hb⟩
              go_wp2_with fail
              have hHeldN := hHeld.trans (hb.mono hHeld.size)
              have o51 := o51.bel hb
              have hbc := hbc.trans (hb.mono hbc.size)
              refine hK.out _ _ ?_ (fun hHeld2 => ?_)
              · exact hHeldN
              clear hK K hHeldN hb; have hHeld := hHeld2; clear hHeld2
              try simp only [Act.put, List.setIfInBounds_toArray, List.set_cons_zero, List.set_cons_succ]
              refine wpAnyH_take (i := 8) (oi := ⟨_, _, _, _, _, _⟩) (v := ?_) rfl (by kernel_rfl) (by kernel_rfl) (by kernel_rfl) (fun _ _ _ h => h) (Or.inl ⟨by rfl, ?_⟩) hHeld ?_
              rotate_left
              · (intro w hSw; (try dsimp only at hSw); go_simp; try (with_reducible rfl))
              try simp only [Act.put, List.setIfInBounds_toArray, List.set_cons_zero, List.set_cons_succ]
              refine wpAnyH_take (i := 9) (oi := ⟨_, _, _, _, _, _⟩) (v := ?_) rfl (by kernel_rfl) (by kernel_rfl) (by kernel_rfl) (fun _ _ _ h => h) (Or.inl ⟨by rfl, ?_⟩) hHeld ?_
              rotate_left
              · (intro w hSw; (try dsimp only at hSw); go_simp; try (with_reducible rfl))
              try simp only [Act.put, List.setIfInBounds_toArray, List.set_cons_zero, List.set_cons_succ]
              refine wpAnyH_take (i := 10) (oi := ⟨_, _, _, _, _, _⟩) (v := ?_) rfl (by kernel_rfl) (by kernel_rfl) (by kernel_rfl) (fun _ _ _ h => h) (Or.inl ⟨by rfl, ?_⟩) hHeld ?_
              rotate_left
              · (intro w hSw; (try dsimp only at hSw); go_simp; try (with_reducible rfl))
              try simp only [Act.put, List.setIfInBounds_toArray, List.set_cons_zero, List.set_cons_succ]
              refine wpAnyH_ready (rs := [11]) (by kernel_rfl) (by simp) ?_
              refine AllReadyH.cons (o := ⟨_, _, _, _, _, _⟩) rfl (fun K hK => ?_) AllReadyH.nil
              go_simp
              obtain ⟨b14, V14, eb14, ev14, hx14, hb, hz14⟩ := mk_bx V52 #[.int .i64 0, .int .i64 0] 24
              rw [ev14.out, eb14.out]
              have hge14 : w5.heap.size ≤ b14 := by have := eb14.out; have := hHeld.size; omega
              try have n46 : b46 ≠ b14 := by have hq : b46 < V52.heap.size := (o46.blockG rfl).2; have := eb14.out; omega
              try have n14 : ¬ (some b14 = v48.ownBlock) := fun e => by have := (o48.blockG e.symm).2; have := eb14.out; omega
              clear ev14 eb14 hz14
              have hHeldN := hHeld.trans (hb.mono hHeld.size)
              have o51 := o51.bel hb
              have hbc := hbc.trans (hb.mono hbc.size)
              refine hK.out _ _ ?_ (fun hHeld2 => ?_)
              · exact hHeldN
              clear hK K hHeldN hb; have hHeld := hHeld2; clear hHeld2
              try simp only [Act.put, List.setIfInBounds_toArray, List.set_cons_zero, List.set_cons_succ]
              exact hCut b46 v48 b50 A51 c51 b14 V14 ⟨hx14, hge14, hbc, hHeld⟩
            refine AllReadyH.cons (o := ⟨_, _, _, _, _, _⟩) rfl (fun K hK => ?_) AllReadyH.nil
            go_simp
            obtain ⟨b14, V14, eb14, ev14, hx14, hb, hz14⟩ := mk_bx V51 #[.int .i64 0, .int .i64 0] 24
            rw [ev14.out, eb14.out]
            have hge14 : w5.heap.size ≤ b14 := by have := eb14.out; have := hHeld.size; omega
            try have n46 : b46 ≠ b14 := by have hq : b46 < V51.heap.size := (o46.blockG rfl).2; have := eb14.out; omega
            try have n14 : ¬ (some b14 = v48.ownBlock) := fun e => by have := (o48.blockG e.symm).2; have := eb14.out; omega
            clear ev14 eb14 hz14
            have hHeldN := hHeld.trans (hb.mono hHeld.size)
            have o51 := o51.bel hb
            have hbc := hbc.trans (hb.mono hbc.size)
            refine hK.out _ _ ?_ (fun hHeld2 => ?_)
            · exact hHeldN
            clear hK K hHeldN hb; have hHeld := hHeld2; clear hHeld2
            try simp only [Act.put, List.setIfInBounds_toArray, List.set_cons_zero, List.set_cons_succ]
            refine wpAnyH_ready (rs := [7]) (by kernel_rfl) (by simp) ?_
            refine AllReadyH.cons (o := ⟨_, _, _, _, _, _⟩) rfl (fun K hK => ?_) AllReadyH.nil
            obtain ⟨A51, c51, rfl, q51⟩ := o51.rdn (np + 1) (by rw [List.length_append, ← Hnp.out]; rfl)
            go_simp
            refine (source_any _ _ ys (ps ++ [p]) n c (np + 1) _ _ Hny.out hny2 ((ry.below hHeld).more hHeld.size) (by rw [List.length_append, ← Hnp.out]; rfl) (by omega) q51).mono ?_
            rintro e V52 ⟨rfl, hb⟩
            go_wp2_with fail
            have hHeldN := hHeld.trans (hb.mono hHeld.size)
            have o51 := o51.bel hb
            have hx14 := hx14.bel hb
            have hbc := hbc.trans (hb.mono hbc.size)
            refine hK.out _ _ ?_ (fun hHeld2 => ?_)
            · exact hHeldN
            clear hK K hHeldN hb; have hHeld := hHeld2; clear hHeld2
            try simp only [Act.put, List.setIfInBounds_toArray, List.set_cons_zero, List.set_cons_succ]
            refine wpAnyH_take (i := 8) (oi := ⟨_, _, _, _, _, _⟩) (v := ?_) rfl (by kernel_rfl) (by kernel_rfl) (by kernel_rfl) (fun _ _ _ h => h) (Or.inl ⟨by rfl, ?_⟩) hHeld ?_
            rotate_left
            · (intro w hSw; (try dsimp only at hSw); go_simp; try (with_reducible rfl))
            try simp only [Act.put, List.setIfInBounds_toArray, List.set_cons_zero, List.set_cons_succ]
            refine wpAnyH_take (i := 9) (oi := ⟨_, _, _, _, _, _⟩) (v := ?_) rfl (by kernel_rfl) (by kernel_rfl) (by kernel_rfl) (fun _ _ _ h => h) (Or.inl ⟨by rfl, ?_⟩) hHeld ?_
            rotate_left
            · (intro w hSw; (try dsimp only at hSw); go_simp; try (with_reducible rfl))
            try simp only [Act.put, List.setIfInBounds_toArray, List.set_cons_zero, List.set_cons_succ]
            refine wpAnyH_take (i := 10) (oi := ⟨_, _, _, _, _, _⟩) (v := ?_) rfl (by kernel_rfl) (by kernel_rfl) (by kernel_rfl) (fun _ _ _ h => h) (Or.inl ⟨by rfl, ?_⟩) hHeld ?_
            rotate_left
            · (intro w hSw; (try dsimp only at hSw); go_simp; try (with_reducible rfl))
            try simp only [Act.put, List.setIfInBounds_toArray, List.set_cons_zero, List.set_cons_succ]
            exact hCut b46 v48 b50 A51 c51 b14 V52 ⟨hx14, hge14, hbc, hHeld⟩
          refine AllReadyH.cons (o := ⟨_, _, _, _, _, _⟩) rfl (fun K hK => ?_) AllReadyH.nil
          go_simp
          obtain ⟨b14, V14, eb14, ev14, hx14, hb, hz14⟩ := mk_bx V50 #[.int .i64 0, .int .i64 0] 24
          rw [ev14.out, eb14.out]
          have hge14 : w5.heap.size ≤ b14 := by have := eb14.out; have := hHeld.size; omega
          try have n46 : b46 ≠ b14 := by have hq : b46 < V50.heap.size := (o46.blockG rfl).2; have := eb14.out; omega
          try have n14 : ¬ (some b14 = v48.ownBlock) := fun e => by have := (o48.blockG e.symm).2; have := eb14.out; omega
          clear ev14 eb14 hz14
          have hHeldN := hHeld.trans (hb.mono hHeld.size)
          have o46 := o46.bel hb
          have o48 := o48.bel hb
          have r50 := r50.bel hb
          have hbc := hbc.trans (hb.mono hbc.size)
          refine hK.out _ _ ?_ (fun hHeld2 => ?_)
          · exact hHeldN
          clear hK K hHeldN hb; have hHeld := hHeld2; clear hHeld2
          try simp only [Act.put, List.setIfInBounds_toArray, List.set_cons_zero, List.set_cons_succ]
          refine wpAnyH_ready (rs := [6]) (by kernel_rfl) (by simp) ?_
          refine AllReadyH.cons (o := ⟨_, _, _, _, _, _⟩) rfl (fun K hK => ?_) AllReadyH.nil
          refine op_appB (v := v48) (xs := ps) (ys := [p]) (n := 1) el_sp (.tmp 48) (.tmp 50) rfl rfl o48 rfl rfl r50 (by decide) (by have := Hnp.out; omega) hbc.size ?_
          intro v51 V51 o51 hg hat
          have hHeldN := own_grown o48 hHeld hg hWd7
          have hx14 := hx14.kept (Kept.grown hg) n14
          refine hK.out _ _ ?_ (fun hHeld2 => ?_)
          · exact hHeldN
          have hbcN := own_grown o48 hbc hg (Nat.le_refl _)
          clear hK K hHeldN hbc; have hHeld := hHeld2; clear hHeld2
          have hbc := hbcN; clear hbcN
          try simp only [Act.put, List.setIfInBounds_toArray, List.set_cons_zero, List.set_cons_succ]
          refine wpAnyH_ready (rs := [7]) (by kernel_rfl) (by simp) ?_
          refine AllReadyH.cons (o := ⟨_, _, _, _, _, _⟩) rfl (fun K hK => ?_) AllReadyH.nil
          obtain ⟨A51, c51, rfl, q51⟩ := o51.rdn (np + 1) (by rw [List.length_append, ← Hnp.out]; rfl)
          go_simp
          refine (source_any _ _ ys (ps ++ [p]) n c (np + 1) _ _ Hny.out hny2 ((ry.below hHeld).more hHeld.size) (by rw [List.length_append, ← Hnp.out]; rfl) (by omega) q51).mono ?_
          rintro e V52 ⟨rfl, hb⟩
          go_wp2_with fail
          have hHeldN := hHeld.trans (hb.mono hHeld.size)
          have o51 := o51.bel hb
          have hx14 := hx14.bel hb
          have hbc := hbc.trans (hb.mono hbc.size)
          refine hK.out _ _ ?_ (fun hHeld2 => ?_)
          · exact hHeldN
          clear hK K hHeldN hb; have hHeld := hHeld2; clear hHeld2
          try simp only [Act.put, List.setIfInBounds_toArray, List.set_cons_zero, List.set_cons_succ]
          refine wpAnyH_take (i := 8) (oi := ⟨_, _, _, _, _, _⟩) (v := ?_) rfl (by kernel_rfl) (by kernel_rfl) (by kernel_rfl) (fun _ _ _ h => h) (Or.inl ⟨by rfl, ?_⟩) hHeld ?_
          rotate_left
          · (intro w hSw; (try dsimp only at hSw); go_simp; try (with_reducible rfl))
          try simp only [Act.put, List.setIfInBounds_toArray, List.set_cons_zero, List.set_cons_succ]
          refine wpAnyH_take (i := 9) (oi := ⟨_, _, _, _, _, _⟩) (v := ?_) rfl (by kernel_rfl) (by kernel_rfl) (by kernel_rfl) (fun _ _ _ h => h) (Or.inl ⟨by rfl, ?_⟩) hHeld ?_
          rotate_left
          · (intro w hSw; (try dsimp only at hSw); go_simp; try (with_reducible rfl))
          try simp only [Act.put, List.setIfInBounds_toArray, List.set_cons_zero, List.set_cons_succ]
          refine wpAnyH_take (i := 10) (oi := ⟨_, _, _, _, _, _⟩) (v := ?_) rfl (by kernel_rfl) (by kernel_rfl) (by kernel_rfl) (fun _ _ _ h => h) (Or.inl ⟨by rfl, ?_⟩) hHeld ?_
          rotate_left
          · (intro w hSw; (try dsimp only at hSw); go_simp; try (with_reducible rfl))
          try simp only [Act.put, List.setIfInBounds_toArray, List.set_cons_zero, List.set_cons_succ]
          exact hCut b46 v48 b50 A51 c51 b14 V52 ⟨hx14, hge14, hbc, hHeld⟩
        refine AllReadyH.cons (o := ⟨_, _, _, _, _, _⟩) rfl (fun K hK => ?_) AllReadyH.nil
        go_simp
        obtain ⟨b14, V14, eb14, ev14, hx14, hb, hz14⟩ := mk_bx V48 #[.int .i64 0, .int .i64 0] 24
        rw [ev14.out, eb14.out]
        have hge14 : w5.heap.size ≤ b14 := by have := eb14.out; have := hHeld.size; omega
        try have n46 : b46 ≠ b14 := by have hq : b46 < V48.heap.size := (o46.blockG rfl).2; have := eb14.out; omega
        try have n14 : ¬ (some b14 = v48.ownBlock) := fun e => by have := (o48.blockG e.symm).2; have := eb14.out; omega
        clear ev14 eb14 hz14
        have hHeldN := hHeld.trans (hb.mono hHeld.size)
        have o46 := o46.bel hb
        have o48 := o48.bel hb
        have hbc := hbc.trans (hb.mono hbc.size)
        refine hK.out _ _ ?_ (fun hHeld2 => ?_)
        · exact hHeldN
        clear hK K hHeldN hb; have hHeld := hHeld2; clear hHeld2
        try simp only [Act.put, List.setIfInBounds_toArray, List.set_cons_zero, List.set_cons_succ]
        refine wpAnyH_ready (rs := [5]) (by kernel_rfl) (by simp) ?_
        refine AllReadyH.cons (o := ⟨_, _, _, _, _, _⟩) rfl (fun K hK => ?_) AllReadyH.nil
        go_simp
        obtain ⟨b50, V50, eb50, ev50, r50, hb⟩ := mk_row (cells := Sp.cells) V14 #[.int .i64 p.lo, .int .i64 p.hi] 24 [p] rfl
        rw [ev50.out, eb50.out]
        have hHeldN := hHeld.trans (hb.mono hHeld.size)
        have o46 := o46.bel hb
        have o48 := o48.bel hb
        have hx14 := hx14.bel hb
        have hbc := hbc.trans (hb.mono hbc.size)
        refine hK.out _ _ ?_ (fun hHeld2 => ?_)
        · exact hHeldN
        clear hK K hHeldN hb; have hHeld := hHeld2; clear hHeld2
        try simp only [Act.put, List.setIfInBounds_toArray, List.set_cons_zero, List.set_cons_succ]
        refine wpAnyH_ready (rs := [6]) (by kernel_rfl) (by simp) ?_
        refine AllReadyH.cons (o := ⟨_, _, _, _, _, _⟩) rfl (fun K hK => ?_) AllReadyH.nil
        refine op_appB (v := v48) (xs := ps) (ys := [p]) (n := 1) el_sp (.tmp 48) (.tmp 50) rfl rfl o48 rfl rfl r50 (by decide) (by have := Hnp.out; omega) hbc.size ?_
        intro v51 V51 o51 hg hat
        have hHeldN := own_grown o48 hHeld hg hWd7
        have hx14 := hx14.kept (Kept.grown hg) n14
        refine hK.out _ _ ?_ (fun hHeld2 => ?_)
        · exact hHeldN
        have hbcN := own_grown o48 hbc hg (Nat.le_refl _)
        clear hK K hHeldN hbc; have hHeld := hHeld2; clear hHeld2
        have hbc := hbcN; clear hbcN
        try simp only [Act.put, List.setIfInBounds_toArray, List.set_cons_zero, List.set_cons_succ]
        refine wpAnyH_ready (rs := [7]) (by kernel_rfl) (by simp) ?_
        refine AllReadyH.cons (o := ⟨_, _, _, _, _, _⟩) rfl (fun K hK => ?_) AllReadyH.nil
        obtain ⟨A51, c51, rfl, q51⟩ := o51.rdn (np + 1) (by rw [List.length_append, ← Hnp.out]; rfl)
        go_simp
        refine (source_any _ _ ys (ps ++ [p]) n c (np + 1) _ _ Hny.out hny2 ((ry.below hHeld).more hHeld.size) (by rw [List.length_append, ← Hnp.out]; rfl) (by omega) q51).mono ?_
        rintro e V52 ⟨rfl, hb⟩
        go_wp2_with fail
        have hHeldN := hHeld.trans (hb.mono hHeld.size)
        have o51 := o51.bel hb
        have hx14 := hx14.bel hb
        have hbc := hbc.trans (hb.mono hbc.size)
        refine hK.out _ _ ?_ (fun hHeld2 => ?_)
        · exact hHeldN
        clear hK K hHeldN hb; have hHeld := hHeld2; clear hHeld2
        try simp only [Act.put, List.setIfInBounds_toArray, List.set_cons_zero, List.set_cons_succ]
        refine wpAnyH_take (i := 8) (oi := ⟨_, _, _, _, _, _⟩) (v := ?_) rfl (by kernel_rfl) (by kernel_rfl) (by kernel_rfl) (fun _ _ _ h => h) (Or.inl ⟨by rfl, ?_⟩) hHeld ?_
        rotate_left
        · (intro w hSw; (try dsimp only at hSw); go_simp; try (with_reducible rfl))
        try simp only [Act.put, List.setIfInBounds_toArray, List.set_cons_zero, List.set_cons_succ]
        refine wpAnyH_take (i := 9) (oi := ⟨_, _, _, _, _, _⟩) (v := ?_) rfl (by kernel_rfl) (by kernel_rfl) (by kernel_rfl) (fun _ _ _ h => h) (Or.inl ⟨by rfl, ?_⟩) hHeld ?_
        rotate_left
        · (intro w hSw; (try dsimp only at hSw); go_simp; try (with_reducible rfl))
        try simp only [Act.put, List.setIfInBounds_toArray, List.set_cons_zero, List.set_cons_succ]
        refine wpAnyH_take (i := 10) (oi := ⟨_, _, _, _, _, _⟩) (v := ?_) rfl (by kernel_rfl) (by kernel_rfl) (by kernel_rfl) (fun _ _ _ h => h) (Or.inl ⟨by rfl, ?_⟩) hHeld ?_
        rotate_left
        · (intro w hSw; (try dsimp only at hSw); go_simp; try (with_reducible rfl))
        try simp only [Act.put, List.setIfInBounds_toArray, List.set_cons_zero, List.set_cons_succ]
        exact hCut b46 v48 b50 A51 c51 b14 V52 ⟨hx14, hge14, hbc, hHeld⟩
      refine AllReadyH.cons (o := ⟨_, _, _, _, _, _⟩) rfl (fun K hK => ?_) ?_
      ·
        go_simp
        obtain ⟨b50, V50, eb50, ev50, r50, hb⟩ := mk_row (cells := Sp.cells) V46 #[.int .i64 p.lo, .int .i64 p.hi] 24 [p] rfl
        rw [ev50.out, eb50.out]
        have hHeldN := hHeld.trans (hb.mono hHeld.size)
        have o46 := o46.bel hb
        have hbc := hbc.trans (hb.mono hbc.size)
        refine hK.out _ _ ?_ (fun hHeld2 => ?_)
        · exact hHeldN
        clear hK K hHeldN hb; have hHeld := hHeld2; clear hHeld2
        try simp only [Act.put, List.setIfInBounds_toArray, List.set_cons_zero, List.set_cons_succ]
        refine wpAnyH_ready (rs := [3, 11]) (by kernel_rfl) (by simp) ?_
        refine AllReadyH.cons (o := ⟨_, _, _, _, _, _⟩) rfl (fun K hK => ?_) ?_
        ·
          refine op_freshB el_sp (.tmp 46) (.tmp 47) rfl rfl o46 Hnp.out.symm rfl ((rp.below hHeld).more hHeld.size) (by decide) (by omega) hbc.size ?_
          intro v48 V48 o48 hb hat48
          try have n14 : ¬ (some b14 = v48.ownBlock) := fun e => by (rcases hat48 with h | h <;> (rw [h] at e; have e := Option.some.inj e; have := hx14.lt; omega))
          have hHeldN := hHeld.trans (hb.mono hHeld.size)
          have o46 := o46.bel hb
          have r50 := r50.bel hb
          have hbc := hbc.trans (hb.mono hbc.size)
          refine hK.out _ _ ?_ (fun hHeld2 => ?_)
          · exact hHeldN
          clear hK K hHeldN hb; have hHeld := hHeld2; clear hHeld2
          try simp only [Act.put, List.setIfInBounds_toArray, List.set_cons_zero, List.set_cons_succ]
          refine wpAnyH_ready (rs := [6, 11]) (by kernel_rfl) (by simp) ?_
          refine AllReadyH.cons (o := ⟨_, _, _, _, _, _⟩) rfl (fun K hK => ?_) ?_
          ·
            refine op_appB (v := v48) (xs := ps) (ys := [p]) (n := 1) el_sp (.tmp 48) (.tmp 50) rfl rfl o48 rfl rfl r50 (by decide) (by have := Hnp.out; omega) hbc.size ?_
            intro v51 V51 o51 hg hat
            have hHeldN := own_grown o48 hHeld hg hWd7
            refine hK.out _ _ ?_ (fun hHeld2 => ?_)
            · exact hHeldN
            have hbcN := own_grown o48 hbc hg (Nat.le_refl _)
            clear hK K hHeldN hbc; have hHeld := hHeld2; clear hHeld2
            have hbc := hbcN; clear hbcN
            try simp only [Act.put, List.setIfInBounds_toArray, List.set_cons_zero, List.set_cons_succ]
            refine wpAnyH_ready (rs := [7, 11]) (by kernel_rfl) (by simp) ?_
            refine AllReadyH.cons (o := ⟨_, _, _, _, _, _⟩) rfl (fun K hK => ?_) ?_
            ·
              obtain ⟨A51, c51, rfl, q51⟩ := o51.rdn (np + 1) (by rw [List.length_append, ← Hnp.out]; rfl)
              go_simp
              refine (source_any _ _ ys (ps ++ [p]) n c (np + 1) _ _ Hny.out hny2 ((ry.below hHeld).more hHeld.size) (by rw [List.length_append, ← Hnp.out]; rfl) (by omega) q51).mono ?_
              rintro e V52 ⟨rfl, hb⟩
              go_wp2_with fail
              have hHeldN := hHeld.trans (hb.mono hHeld.size)
              have o51 := o51.bel hb
              have hbc := hbc.trans (hb.mono hbc.size)
              refine hK.out _ _ ?_ (fun hHeld2 => ?_)
              · exact hHeldN
              clear hK K hHeldN hb; have hHeld := hHeld2; clear hHeld2
              try simp only [Act.put, List.setIfInBounds_toArray, List.set_cons_zero, List.set_cons_succ]
              refine wpAnyH_take (i := 8) (oi := ⟨_, _, _, _, _, _⟩) (v := ?_) rfl (by kernel_rfl) (by kernel_rfl) (by kernel_rfl) (fun _ _ _ h => h) (Or.inl ⟨by rfl, ?_⟩) hHeld ?_
              rotate_left
              · (intro w hSw; (try dsimp only at hSw); go_simp; try (with_reducible rfl))
              try simp only [Act.put, List.setIfInBounds_toArray, List.set_cons_zero, List.set_cons_succ]
              refine wpAnyH_take (i := 9) (oi := ⟨_, _, _, _, _, _⟩) (v := ?_) rfl (by kernel_rfl) (by kernel_rfl) (by kernel_rfl) (fun _ _ _ h => h) (Or.inl ⟨by rfl, ?_⟩) hHeld ?_
              rotate_left
              · (intro w hSw; (try dsimp only at hSw); go_simp; try (with_reducible rfl))
              try simp only [Act.put, List.setIfInBounds_toArray, List.set_cons_zero, List.set_cons_succ]
              refine wpAnyH_take (i := 10) (oi := ⟨_, _, _, _, _, _⟩) (v := ?_) rfl (by kernel_rfl) (by kernel_rfl) (by kernel_rfl) (fun _ _ _ h => h) (Or.inl ⟨by rfl, ?_⟩) hHeld ?_
              rotate_left
              · (intro w hSw; (try dsimp only at hSw); go_simp; try (with_reducible rfl))
              try simp only [Act.put, List.setIfInBounds_toArray, List.set_cons_zero, List.set_cons_succ]
              refine wpAnyH_ready (rs := [11]) (by kernel_rfl) (by simp) ?_
              refine AllReadyH.cons (o := ⟨_, _, _, _, _, _⟩) rfl (fun K hK => ?_) AllReadyH.nil
              go_simp
              obtain ⟨b14, V14, eb14, ev14, hx14, hb, hz14⟩ := mk_bx V52 #[.int .i64 0, .int .i64 0] 24
              rw [ev14.out, eb14.out]
              have hge14 : w5.heap.size ≤ b14 := by have := eb14.out; have := hHeld.size; omega
              try have n46 : b46 ≠ b14 := by have hq : b46 < V52.heap.size := (o46.blockG rfl).2; have := eb14.out; omega
              try have n14 : ¬ (some b14 = v48.ownBlock) := fun e => by have := (o48.blockG e.symm).2; have := eb14.out; omega
              clear ev14 eb14 hz14
              have hHeldN := hHeld.trans (hb.mono hHeld.size)
              have o51 := o51.bel hb
              have hbc := hbc.trans (hb.mono hbc.size)
              refine hK.out _ _ ?_ (fun hHeld2 => ?_)
              · exact hHeldN
              clear hK K hHeldN hb; have hHeld := hHeld2; clear hHeld2
              try simp only [Act.put, List.setIfInBounds_toArray, List.set_cons_zero, List.set_cons_succ]
              exact hCut b46 v48 b50 A51 c51 b14 V14 ⟨hx14, hge14, hbc, hHeld⟩
            refine AllReadyH.cons (o := ⟨_, _, _, _, _, _⟩) rfl (fun K hK => ?_) AllReadyH.nil
            go_simp
            obtain ⟨b14, V14, eb14, ev14, hx14, hb, hz14⟩ := mk_bx V51 #[.int .i64 0, .int .i64 0] 24
            rw [ev14.out, eb14.out]
            have hge14 : w5.heap.size ≤ b14 := by have := eb14.out; have := hHeld.size; omega
            try have n46 : b46 ≠ b14 := by have hq : b46 < V51.heap.size := (o46.blockG rfl).2; have := eb14.out; omega
            try have n14 : ¬ (some b14 = v48.ownBlock) := fun e => by have := (o48.blockG e.symm).2; have := eb14.out; omega
            clear ev14 eb14 hz14
            have hHeldN := hHeld.trans (hb.mono hHeld.size)
            have o51 := o51.bel hb
            have hbc := hbc.trans (hb.mono hbc.size)
            refine hK.out _ _ ?_ (fun hHeld2 => ?_)
            · exact hHeldN
            clear hK K hHeldN hb; have hHeld := hHeld2; clear hHeld2
            try simp only [Act.put, List.setIfInBounds_toArray, List.set_cons_zero, List.set_cons_succ]
            refine wpAnyH_ready (rs := [7]) (by kernel_rfl) (by simp) ?_
            refine AllReadyH.cons (o := ⟨_, _, _, _, _, _⟩) rfl (fun K hK => ?_) AllReadyH.nil
            obtain ⟨A51, c51, rfl, q51⟩ := o51.rdn (np + 1) (by rw [List.length_append, ← Hnp.out]; rfl)
            go_simp
            refine (source_any _ _ ys (ps ++ [p]) n c (np + 1) _ _ Hny.out hny2 ((ry.below hHeld).more hHeld.size) (by rw [List.length_append, ← Hnp.out]; rfl) (by omega) q51).mono ?_
            rintro e V52 ⟨rfl, hb⟩
            go_wp2_with fail
            have hHeldN := hHeld.trans (hb.mono hHeld.size)
            have o51 := o51.bel hb
            have hx14 := hx14.bel hb
            have hbc := hbc.trans (hb.mono hbc.size)
            refine hK.out _ _ ?_ (fun hHeld2 => ?_)
            · exact hHeldN
            clear hK K hHeldN hb; have hHeld := hHeld2; clear hHeld2
            try simp only [Act.put, List.setIfInBounds_toArray, List.set_cons_zero, List.set_cons_succ]
            refine wpAnyH_take (i := 8) (oi := ⟨_, _, _, _, _, _⟩) (v := ?_) rfl (by kernel_rfl) (by kernel_rfl) (by kernel_rfl) (fun _ _ _ h => h) (Or.inl ⟨by rfl, ?_⟩) hHeld ?_
            rotate_left
            · (intro w hSw; (try dsimp only at hSw); go_simp; try (with_reducible rfl))
            try simp only [Act.put, List.setIfInBounds_toArray, List.set_cons_zero, List.set_cons_succ]
            refine wpAnyH_take (i := 9) (oi := ⟨_, _, _, _, _, _⟩) (v := ?_) rfl (by kernel_rfl) (by kernel_rfl) (by kernel_rfl) (fun _ _ _ h => h) (Or.inl ⟨by rfl, ?_⟩) hHeld ?_
            rotate_left
            · (intro w hSw; (try dsimp only at hSw); go_simp; try (with_reducible rfl))
            try simp only [Act.put, List.setIfInBounds_toArray, List.set_cons_zero, List.set_cons_succ]
            refine wpAnyH_take (i := 10) (oi := ⟨_, _, _, _, _, _⟩) (v := ?_) rfl (by kernel_rfl) (by kernel_rfl) (by kernel_rfl) (fun _ _ _ h => h) (Or.inl ⟨by rfl, ?_⟩) hHeld ?_
            rotate_left
            · (intro w hSw; (try dsimp only at hSw); go_simp; try (with_reducible rfl))
            try simp only [Act.put, List.setIfInBounds_toArray, List.set_cons_zero, List.set_cons_succ]
            exact hCut b46 v48 b50 A51 c51 b14 V52 ⟨hx14, hge14, hbc, hHeld⟩
          refine AllReadyH.cons (o := ⟨_, _, _, _, _, _⟩) rfl (fun K hK => ?_) AllReadyH.nil
          go_simp
          obtain ⟨b14, V14, eb14, ev14, hx14, hb, hz14⟩ := mk_bx V48 #[.int .i64 0, .int .i64 0] 24
          rw [ev14.out, eb14.out]
          have hge14 : w5.heap.size ≤ b14 := by have := eb14.out; have := hHeld.size; omega
          try have n46 : b46 ≠ b14 := by have hq : b46 < V48.heap.size := (o46.blockG rfl).2; have := eb14.out; omega
          try have n14 : ¬ (some b14 = v48.ownBlock) := fun e => by have := (o48.blockG e.symm).2; have := eb14.out; omega
          clear ev14 eb14 hz14
          have hHeldN := hHeld.trans (hb.mono hHeld.size)
          have o46 := o46.bel hb
          have r50 := r50.bel hb
          have o48 := o48.bel hb
          have hbc := hbc.trans (hb.mono hbc.size)
          refine hK.out _ _ ?_ (fun hHeld2 => ?_)
          · exact hHeldN
          clear hK K hHeldN hb; have hHeld := hHeld2; clear hHeld2
          try simp only [Act.put, List.setIfInBounds_toArray, List.set_cons_zero, List.set_cons_succ]
          refine wpAnyH_ready (rs := [6]) (by kernel_rfl) (by simp) ?_
          refine AllReadyH.cons (o := ⟨_, _, _, _, _, _⟩) rfl (fun K hK => ?_) AllReadyH.nil
          refine op_appB (v := v48) (xs := ps) (ys := [p]) (n := 1) el_sp (.tmp 48) (.tmp 50) rfl rfl o48 rfl rfl r50 (by decide) (by have := Hnp.out; omega) hbc.size ?_
          intro v51 V51 o51 hg hat
          have hHeldN := own_grown o48 hHeld hg hWd7
          have hx14 := hx14.kept (Kept.grown hg) n14
          refine hK.out _ _ ?_ (fun hHeld2 => ?_)
          · exact hHeldN
          have hbcN := own_grown o48 hbc hg (Nat.le_refl _)
          clear hK K hHeldN hbc; have hHeld := hHeld2; clear hHeld2
          have hbc := hbcN; clear hbcN
          try simp only [Act.put, List.setIfInBounds_toArray, List.set_cons_zero, List.set_cons_succ]
          refine wpAnyH_ready (rs := [7]) (by kernel_rfl) (by simp) ?_
          refine AllReadyH.cons (o := ⟨_, _, _, _, _, _⟩) rfl (fun K hK => ?_) AllReadyH.nil
          obtain ⟨A51, c51, rfl, q51⟩ := o51.rdn (np + 1) (by rw [List.length_append, ← Hnp.out]; rfl)
          go_simp
          refine (source_any _ _ ys (ps ++ [p]) n c (np + 1) _ _ Hny.out hny2 ((ry.below hHeld).more hHeld.size) (by rw [List.length_append, ← Hnp.out]; rfl) (by omega) q51).mono ?_
          rintro e V52 ⟨rfl, hb⟩
          go_wp2_with fail
          have hHeldN := hHeld.trans (hb.mono hHeld.size)
          have o51 := o51.bel hb
          have hx14 := hx14.bel hb
          have hbc := hbc.trans (hb.mono hbc.size)
          refine hK.out _ _ ?_ (fun hHeld2 => ?_)
          · exact hHeldN
          clear hK K hHeldN hb; have hHeld := hHeld2; clear hHeld2
          try simp only [Act.put, List.setIfInBounds_toArray, List.set_cons_zero, List.set_cons_succ]
          refine wpAnyH_take (i := 8) (oi := ⟨_, _, _, _, _, _⟩) (v := ?_) rfl (by kernel_rfl) (by kernel_rfl) (by kernel_rfl) (fun _ _ _ h => h) (Or.inl ⟨by rfl, ?_⟩) hHeld ?_
          rotate_left
          · (intro w hSw; (try dsimp only at hSw); go_simp; try (with_reducible rfl))
          try simp only [Act.put, List.setIfInBounds_toArray, List.set_cons_zero, List.set_cons_succ]
          refine wpAnyH_take (i := 9) (oi := ⟨_, _, _, _, _, _⟩) (v := ?_) rfl (by kernel_rfl) (by kernel_rfl) (by kernel_rfl) (fun _ _ _ h => h) (Or.inl ⟨by rfl, ?_⟩) hHeld ?_
          rotate_left
          · (intro w hSw; (try dsimp only at hSw); go_simp; try (with_reducible rfl))
          try simp only [Act.put, List.setIfInBounds_toArray, List.set_cons_zero, List.set_cons_succ]
          refine wpAnyH_take (i := 10) (oi := ⟨_, _, _, _, _, _⟩) (v := ?_) rfl (by kernel_rfl) (by kernel_rfl) (by kernel_rfl) (fun _ _ _ h => h) (Or.inl ⟨by rfl, ?_⟩) hHeld ?_
          rotate_left
          · (intro w hSw; (try dsimp only at hSw); go_simp; try (with_reducible rfl))
          try simp only [Act.put, List.setIfInBounds_toArray, List.set_cons_zero, List.set_cons_succ]
          exact hCut b46 v48 b50 A51 c51 b14 V52 ⟨hx14, hge14, hbc, hHeld⟩
        refine AllReadyH.cons (o := ⟨_, _, _, _, _, _⟩) rfl (fun K hK => ?_) AllReadyH.nil
        go_simp
        obtain ⟨b14, V14, eb14, ev14, hx14, hb, hz14⟩ := mk_bx V50 #[.int .i64 0, .int .i64 0] 24
        rw [ev14.out, eb14.out]
        have hge14 : w5.heap.size ≤ b14 := by have := eb14.out; have := hHeld.size; omega
        try have n46 : b46 ≠ b14 := by have hq : b46 < V50.heap.size := (o46.blockG rfl).2; have := eb14.out; omega
        try have n14 : ¬ (some b14 = v48.ownBlock) := fun e => by have := (o48.blockG e.symm).2; have := eb14.out; omega
        clear ev14 eb14 hz14
        have hHeldN := hHeld.trans (hb.mono hHeld.size)
        have o46 := o46.bel hb
        have r50 := r50.bel hb
        have hbc := hbc.trans (hb.mono hbc.size)
        refine hK.out _ _ ?_ (fun hHeld2 => ?_)
        · exact hHeldN
        clear hK K hHeldN hb; have hHeld := hHeld2; clear hHeld2
        try simp only [Act.put, List.setIfInBounds_toArray, List.set_cons_zero, List.set_cons_succ]
        refine wpAnyH_ready (rs := [3]) (by kernel_rfl) (by simp) ?_
        refine AllReadyH.cons (o := ⟨_, _, _, _, _, _⟩) rfl (fun K hK => ?_) AllReadyH.nil
        refine op_freshB el_sp (.tmp 46) (.tmp 47) rfl rfl o46 Hnp.out.symm rfl ((rp.below hHeld).more hHeld.size) (by decide) (by omega) hbc.size ?_
        intro v48 V48 o48 hb hat48
        try have n14 : ¬ (some b14 = v48.ownBlock) := fun e => by (rcases hat48 with h | h <;> (rw [h] at e; have e := Option.some.inj e; have := hx14.lt; omega))
        have hHeldN := hHeld.trans (hb.mono hHeld.size)
        have o46 := o46.bel hb
        have r50 := r50.bel hb
        have hx14 := hx14.bel hb
        have hbc := hbc.trans (hb.mono hbc.size)
        refine hK.out _ _ ?_ (fun hHeld2 => ?_)
        · exact hHeldN
        clear hK K hHeldN hb; have hHeld := hHeld2; clear hHeld2
        try simp only [Act.put, List.setIfInBounds_toArray, List.set_cons_zero, List.set_cons_succ]
        refine wpAnyH_ready (rs := [6]) (by kernel_rfl) (by simp) ?_
        refine AllReadyH.cons (o := ⟨_, _, _, _, _, _⟩) rfl (fun K hK => ?_) AllReadyH.nil
        refine op_appB (v := v48) (xs := ps) (ys := [p]) (n := 1) el_sp (.tmp 48) (.tmp 50) rfl rfl o48 rfl rfl r50 (by decide) (by have := Hnp.out; omega) hbc.size ?_
        intro v51 V51 o51 hg hat
        have hHeldN := own_grown o48 hHeld hg hWd7
        have hx14 := hx14.kept (Kept.grown hg) n14
        refine hK.out _ _ ?_ (fun hHeld2 => ?_)
        · exact hHeldN
        have hbcN := own_grown o48 hbc hg (Nat.le_refl _)
        clear hK K hHeldN hbc; have hHeld := hHeld2; clear hHeld2
        have hbc := hbcN; clear hbcN
        try simp only [Act.put, List.setIfInBounds_toArray, List.set_cons_zero, List.set_cons_succ]
        refine wpAnyH_ready (rs := [7]) (by kernel_rfl) (by simp) ?_
        refine AllReadyH.cons (o := ⟨_, _, _, _, _, _⟩) rfl (fun K hK => ?_) AllReadyH.nil
        obtain ⟨A51, c51, rfl, q51⟩ := o51.rdn (np + 1) (by rw [List.length_append, ← Hnp.out]; rfl)
        go_simp
        refine (source_any _ _ ys (ps ++ [p]) n c (np + 1) _ _ Hny.out hny2 ((ry.below hHeld).more hHeld.size) (by rw [List.length_append, ← Hnp.out]; rfl) (by omega) q51).mono ?_
        rintro e V52 ⟨rfl, hb⟩
        go_wp2_with fail
        have hHeldN := hHeld.trans (hb.mono hHeld.size)
        have o51 := o51.bel hb
        have hx14 := hx14.bel hb
        have hbc := hbc.trans (hb.mono hbc.size)
        refine hK.out _ _ ?_ (fun hHeld2 => ?_)
        · exact hHeldN
        clear hK K hHeldN hb; have hHeld := hHeld2; clear hHeld2
        try simp only [Act.put, List.setIfInBounds_toArray, List.set_cons_zero, List.set_cons_succ]
        refine wpAnyH_take (i := 8) (oi := ⟨_, _, _, _, _, _⟩) (v := ?_) rfl (by kernel_rfl) (by kernel_rfl) (by kernel_rfl) (fun _ _ _ h => h) (Or.inl ⟨by rfl, ?_⟩) hHeld ?_
        rotate_left
        · (intro w hSw; (try dsimp only at hSw); go_simp; try (with_reducible rfl))
        try simp only [Act.put, List.setIfInBounds_toArray, List.set_cons_zero, List.set_cons_succ]
        refine wpAnyH_take (i := 9) (oi := ⟨_, _, _, _, _, _⟩) (v := ?_) rfl (by kernel_rfl) (by kernel_rfl) (by kernel_rfl) (fun _ _ _ h => h) (Or.inl ⟨by rfl, ?_⟩) hHeld ?_
        rotate_left
        · (intro w hSw; (try dsimp only at hSw); go_simp; try (with_reducible rfl))
        try simp only [Act.put, List.setIfInBounds_toArray, List.set_cons_zero, List.set_cons_succ]
        refine wpAnyH_take (i := 10) (oi := ⟨_, _, _, _, _, _⟩) (v := ?_) rfl (by kernel_rfl) (by kernel_rfl) (by kernel_rfl) (fun _ _ _ h => h) (Or.inl ⟨by rfl, ?_⟩) hHeld ?_
        rotate_left
        · (intro w hSw; (try dsimp only at hSw); go_simp; try (with_reducible rfl))
        try simp only [Act.put, List.setIfInBounds_toArray, List.set_cons_zero, List.set_cons_succ]
        exact hCut b46 v48 b50 A51 c51 b14 V52 ⟨hx14, hge14, hbc, hHeld⟩
      refine AllReadyH.cons (o := ⟨_, _, _, _, _, _⟩) rfl (fun K hK => ?_) AllReadyH.nil
      go_simp
      obtain ⟨b14, V14, eb14, ev14, hx14, hb, hz14⟩ := mk_bx V46 #[.int .i64 0, .int .i64 0] 24
      rw [ev14.out, eb14.out]
      have hge14 : w5.heap.size ≤ b14 := by have := eb14.out; have := hHeld.size; omega
      try have n46 : b46 ≠ b14 := by have hq : b46 < V46.heap.size := (o46.blockG rfl).2; have := eb14.out; omega
      try have n14 : ¬ (some b14 = v48.ownBlock) := fun e => by have := (o48.blockG e.symm).2; have := eb14.out; omega
      clear ev14 eb14 hz14
      have hHeldN := hHeld.trans (hb.mono hHeld.size)
      have o46 := o46.bel hb
      have hbc := hbc.trans (hb.mono hbc.size)
      refine hK.out _ _ ?_ (fun hHeld2 => ?_)
      · exact hHeldN
      clear hK K hHeldN hb; have hHeld := hHeld2; clear hHeld2
      try simp only [Act.put, List.setIfInBounds_toArray, List.set_cons_zero, List.set_cons_succ]
      refine wpAnyH_ready (rs := [3, 5]) (by kernel_rfl) (by simp) ?_
      refine AllReadyH.cons (o := ⟨_, _, _, _, _, _⟩) rfl (fun K hK => ?_) ?_
      ·
        refine op_freshB el_sp (.tmp 46) (.tmp 47) rfl rfl o46 Hnp.out.symm rfl ((rp.below hHeld).more hHeld.size) (by decide) (by omega) hbc.size ?_
        intro v48 V48 o48 hb hat48
        try have n14 : ¬ (some b14 = v48.ownBlock) := fun e => by (rcases hat48 with h | h <;> (rw [h] at e; have e := Option.some.inj e; have := hx14.lt; omega))
        have hHeldN := hHeld.trans (hb.mono hHeld.size)
        have o46 := o46.bel hb
        have hx14 := hx14.bel hb
        have hbc := hbc.trans (hb.mono hbc.size)
        refine hK.out _ _ ?_ (fun hHeld2 => ?_)
        · exact hHeldN
        clear hK K hHeldN hb; have hHeld := hHeld2; clear hHeld2
        try simp only [Act.put, List.setIfInBounds_toArray, List.set_cons_zero, List.set_cons_succ]
        refine wpAnyH_ready (rs := [5]) (by kernel_rfl) (by simp) ?_
        refine AllReadyH.cons (o := ⟨_, _, _, _, _, _⟩) rfl (fun K hK => ?_) AllReadyH.nil
        go_simp
        obtain ⟨b50, V50, eb50, ev50, r50, hb⟩ := mk_row (cells := Sp.cells) V48 #[.int .i64 p.lo, .int .i64 p.hi] 24 [p] rfl
        rw [ev50.out, eb50.out]
        have hHeldN := hHeld.trans (hb.mono hHeld.size)
        have o46 := o46.bel hb
        have hx14 := hx14.bel hb
        have o48 := o48.bel hb
        have hbc := hbc.trans (hb.mono hbc.size)
        refine hK.out _ _ ?_ (fun hHeld2 => ?_)
        · exact hHeldN
        clear hK K hHeldN hb; have hHeld := hHeld2; clear hHeld2
        try simp only [Act.put, List.setIfInBounds_toArray, List.set_cons_zero, List.set_cons_succ]
        refine wpAnyH_ready (rs := [6]) (by kernel_rfl) (by simp) ?_
        refine AllReadyH.cons (o := ⟨_, _, _, _, _, _⟩) rfl (fun K hK => ?_) AllReadyH.nil
        refine op_appB (v := v48) (xs := ps) (ys := [p]) (n := 1) el_sp (.tmp 48) (.tmp 50) rfl rfl o48 rfl rfl r50 (by decide) (by have := Hnp.out; omega) hbc.size ?_
        intro v51 V51 o51 hg hat
        have hHeldN := own_grown o48 hHeld hg hWd7
        have hx14 := hx14.kept (Kept.grown hg) n14
        refine hK.out _ _ ?_ (fun hHeld2 => ?_)
        · exact hHeldN
        have hbcN := own_grown o48 hbc hg (Nat.le_refl _)
        clear hK K hHeldN hbc; have hHeld := hHeld2; clear hHeld2
        have hbc := hbcN; clear hbcN
        try simp only [Act.put, List.setIfInBounds_toArray, List.set_cons_zero, List.set_cons_succ]
        refine wpAnyH_ready (rs := [7]) (by kernel_rfl) (by simp) ?_
        refine AllReadyH.cons (o := ⟨_, _, _, _, _, _⟩) rfl (fun K hK => ?_) AllReadyH.nil
        obtain ⟨A51, c51, rfl, q51⟩ := o51.rdn (np + 1) (by rw [List.length_append, ← Hnp.out]; rfl)
        go_simp
        refine (source_any _ _ ys (ps ++ [p]) n c (np + 1) _ _ Hny.out hny2 ((ry.below hHeld).more hHeld.size) (by rw [List.length_append, ← Hnp.out]; rfl) (by omega) q51).mono ?_
        rintro e V52 ⟨rfl, hb⟩
        go_wp2_with fail
        have hHeldN := hHeld.trans (hb.mono hHeld.size)
        have o51 := o51.bel hb
        have hx14 := hx14.bel hb
        have hbc := hbc.trans (hb.mono hbc.size)
        refine hK.out _ _ ?_ (fun hHeld2 => ?_)
        · exact hHeldN
        clear hK K hHeldN hb; have hHeld := hHeld2; clear hHeld2
        try simp only [Act.put, List.setIfInBounds_toArray, List.set_cons_zero, List.set_cons_succ]
        refine wpAnyH_take (i := 8) (oi := ⟨_, _, _, _, _, _⟩) (v := ?_) rfl (by kernel_rfl) (by kernel_rfl) (by kernel_rfl) (fun _ _ _ h => h) (Or.inl ⟨by rfl, ?_⟩) hHeld ?_
        rotate_left
        · (intro w hSw; (try dsimp only at hSw); go_simp; try (with_reducible rfl))
        try simp only [Act.put, List.setIfInBounds_toArray, List.set_cons_zero, List.set_cons_succ]
        refine wpAnyH_take (i := 9) (oi := ⟨_, _, _, _, _, _⟩) (v := ?_) rfl (by kernel_rfl) (by kernel_rfl) (by kernel_rfl) (fun _ _ _ h => h) (Or.inl ⟨by rfl, ?_⟩) hHeld ?_
        rotate_left
        · (intro w hSw; (try dsimp only at hSw); go_simp; try (with_reducible rfl))
        try simp only [Act.put, List.setIfInBounds_toArray, List.set_cons_zero, List.set_cons_succ]
        refine wpAnyH_take (i := 10) (oi := ⟨_, _, _, _, _, _⟩) (v := ?_) rfl (by kernel_rfl) (by kernel_rfl) (by kernel_rfl) (fun _ _ _ h => h) (Or.inl ⟨by rfl, ?_⟩) hHeld ?_
        rotate_left
        · (intro w hSw; (try dsimp only at hSw); go_simp; try (with_reducible rfl))
        try simp only [Act.put, List.setIfInBounds_toArray, List.set_cons_zero, List.set_cons_succ]
        exact hCut b46 v48 b50 A51 c51 b14 V52 ⟨hx14, hge14, hbc, hHeld⟩
      refine AllReadyH.cons (o := ⟨_, _, _, _, _, _⟩) rfl (fun K hK => ?_) AllReadyH.nil
      go_simp
      obtain ⟨b50, V50, eb50, ev50, r50, hb⟩ := mk_row (cells := Sp.cells) V14 #[.int .i64 p.lo, .int .i64 p.hi] 24 [p] rfl
      rw [ev50.out, eb50.out]
      have hHeldN := hHeld.trans (hb.mono hHeld.size)
      have o46 := o46.bel hb
      have hx14 := hx14.bel hb
      have hbc := hbc.trans (hb.mono hbc.size)
      refine hK.out _ _ ?_ (fun hHeld2 => ?_)
      · exact hHeldN
      clear hK K hHeldN hb; have hHeld := hHeld2; clear hHeld2
      try simp only [Act.put, List.setIfInBounds_toArray, List.set_cons_zero, List.set_cons_succ]
      refine wpAnyH_ready (rs := [3]) (by kernel_rfl) (by simp) ?_
      refine AllReadyH.cons (o := ⟨_, _, _, _, _, _⟩) rfl (fun K hK => ?_) AllReadyH.nil
      refine op_freshB el_sp (.tmp 46) (.tmp 47) rfl rfl o46 Hnp.out.symm rfl ((rp.below hHeld).more hHeld.size) (by decide) (by omega) hbc.size ?_
      intro v48 V48 o48 hb hat48
      try have n14 : ¬ (some b14 = v48.ownBlock) := fun e => by (rcases hat48 with h | h <;> (rw [h] at e; have e := Option.some.inj e; have := hx14.lt; omega))
      have hHeldN := hHeld.trans (hb.mono hHeld.size)
      have o46 := o46.bel hb
      have hx14 := hx14.bel hb
      have r50 := r50.bel hb
      have hbc := hbc.trans (hb.mono hbc.size)
      refine hK.out _ _ ?_ (fun hHeld2 => ?_)
      · exact hHeldN
      clear hK K hHeldN hb; have hHeld := hHeld2; clear hHeld2
      try simp only [Act.put, List.setIfInBounds_toArray, List.set_cons_zero, List.set_cons_succ]
      refine wpAnyH_ready (rs := [6]) (by kernel_rfl) (by simp) ?_
      refine AllReadyH.cons (o := ⟨_, _, _, _, _, _⟩) rfl (fun K hK => ?_) AllReadyH.nil
      refine op_appB (v := v48) (xs := ps) (ys := [p]) (n := 1) el_sp (.tmp 48) (.tmp 50) rfl rfl o48 rfl rfl r50 (by decide) (by have := Hnp.out; omega) hbc.size ?_
      intro v51 V51 o51 hg hat
      have hHeldN := own_grown o48 hHeld hg hWd7
      have hx14 := hx14.kept (Kept.grown hg) n14
      refine hK.out _ _ ?_ (fun hHeld2 => ?_)
      · exact hHeldN
      have hbcN := own_grown o48 hbc hg (Nat.le_refl _)
      clear hK K hHeldN hbc; have hHeld := hHeld2; clear hHeld2
      have hbc := hbcN; clear hbcN
      try simp only [Act.put, List.setIfInBounds_toArray, List.set_cons_zero, List.set_cons_succ]
      refine wpAnyH_ready (rs := [7]) (by kernel_rfl) (by simp) ?_
      refine AllReadyH.cons (o := ⟨_, _, _, _, _, _⟩) rfl (fun K hK => ?_) AllReadyH.nil
      obtain ⟨A51, c51, rfl, q51⟩ := o51.rdn (np + 1) (by rw [List.length_append, ← Hnp.out]; rfl)
      go_simp
      refine (source_any _ _ ys (ps ++ [p]) n c (np + 1) _ _ Hny.out hny2 ((ry.below hHeld).more hHeld.size) (by rw [List.length_append, ← Hnp.out]; rfl) (by omega) q51).mono ?_
      rintro e V52 ⟨rfl, hb⟩
      go_wp2_with fail
      have hHeldN := hHeld.trans (hb.mono hHeld.size)
      have o51 := o51.bel hb
      have hx14 := hx14.bel hb
      have hbc := hbc.trans (hb.mono hbc.size)
      refine hK.out _ _ ?_ (fun hHeld2 => ?_)
      · exact hHeldN
      clear hK K hHeldN hb; have hHeld := hHeld2; clear hHeld2
      try simp only [Act.put, List.setIfInBounds_toArray, List.set_cons_zero, List.set_cons_succ]
      refine wpAnyH_take (i := 8) (oi := ⟨_, _, _, _, _, _⟩) (v := ?_) rfl (by kernel_rfl) (by kernel_rfl) (by kernel_rfl) (fun _ _ _ h => h) (Or.inl ⟨by rfl, ?_⟩) hHeld ?_
      rotate_left
      · (intro w hSw; (try dsimp only at hSw); go_simp; try (with_reducible rfl))
      try simp only [Act.put, List.setIfInBounds_toArray, List.set_cons_zero, List.set_cons_succ]
      refine wpAnyH_take (i := 9) (oi := ⟨_, _, _, _, _, _⟩) (v := ?_) rfl (by kernel_rfl) (by kernel_rfl) (by kernel_rfl) (fun _ _ _ h => h) (Or.inl ⟨by rfl, ?_⟩) hHeld ?_
      rotate_left
      · (intro w hSw; (try dsimp only at hSw); go_simp; try (with_reducible rfl))
      try simp only [Act.put, List.setIfInBounds_toArray, List.set_cons_zero, List.set_cons_succ]
      refine wpAnyH_take (i := 10) (oi := ⟨_, _, _, _, _, _⟩) (v := ?_) rfl (by kernel_rfl) (by kernel_rfl) (by kernel_rfl) (fun _ _ _ h => h) (Or.inl ⟨by rfl, ?_⟩) hHeld ?_
      rotate_left
      · (intro w hSw; (try dsimp only at hSw); go_simp; try (with_reducible rfl))
      try simp only [Act.put, List.setIfInBounds_toArray, List.set_cons_zero, List.set_cons_succ]
      exact hCut b46 v48 b50 A51 c51 b14 V52 ⟨hx14, hge14, hbc, hHeld⟩
    refine AllReadyH.cons (o := ⟨_, _, _, _, _, _⟩) rfl (fun K hK => ?_) ?_
    ·
      go_simp
      obtain ⟨b50, V50, eb50, ev50, r50, hb⟩ := mk_row (cells := Sp.cells) Wd7 #[.int .i64 p.lo, .int .i64 p.hi] 24 [p] rfl
      rw [ev50.out, eb50.out]
      have hHeldN := hHeld.trans (hb.mono hHeld.size)
      have hbc := hbc.trans (hb.mono hbc.size)
      refine hK.out _ _ ?_ (fun hHeld2 => ?_)
      · exact hHeldN
      clear hK K hHeldN hb; have hHeld := hHeld2; clear hHeld2
      try simp only [Act.put, List.setIfInBounds_toArray, List.set_cons_zero, List.set_cons_succ]
      refine wpAnyH_ready (rs := [1, 11]) (by kernel_rfl) (by simp) ?_
      refine AllReadyH.cons (o := ⟨_, _, _, _, _, _⟩) rfl (fun K hK => ?_) ?_
      ·
        go_simp
        obtain ⟨b46, V46, eb46, ev46, o46, hb⟩ := mk_own (cells := Sp.cells) V50 #[] 24 2 [] Sp.len rfl (by decide) Wd7.heap.size hbc.size
        try have n46 : b46 ≠ b14 := by have := hx14.lt; have := eb46.out; omega
        rw [ev46.out, eb46.out]
        have hHeldN := hHeld.trans (hb.mono hHeld.size)
        have r50 := r50.bel hb
        have hbc := hbc.trans (hb.mono hbc.size)
        refine hK.out _ _ ?_ (fun hHeld2 => ?_)
        · exact hHeldN
        clear hK K hHeldN hb; have hHeld := hHeld2; clear hHeld2
        try simp only [Act.put, List.setIfInBounds_toArray, List.set_cons_zero, List.set_cons_succ]
        refine wpAnyH_ready (rs := [3, 11]) (by kernel_rfl) (by simp) ?_
        refine AllReadyH.cons (o := ⟨_, _, _, _, _, _⟩) rfl (fun K hK => ?_) ?_
        ·
          refine op_freshB el_sp (.tmp 46) (.tmp 47) rfl rfl o46 Hnp.out.symm rfl ((rp.below hHeld).more hHeld.size) (by decide) (by omega) hbc.size ?_
          intro v48 V48 o48 hb hat48
          try have n14 : ¬ (some b14 = v48.ownBlock) := fun e => by (rcases hat48 with h | h <;> (rw [h] at e; have e := Option.some.inj e; have := hx14.lt; omega))
          have hHeldN := hHeld.trans (hb.mono hHeld.size)
          have r50 := r50.bel hb
          have o46 := o46.bel hb
          have hbc := hbc.trans (hb.mono hbc.size)
          refine hK.out _ _ ?_ (fun hHeld2 => ?_)
          · exact hHeldN
          clear hK K hHeldN hb; have hHeld := hHeld2; clear hHeld2
          try simp only [Act.put, List.setIfInBounds_toArray, List.set_cons_zero, List.set_cons_succ]
          refine wpAnyH_ready (rs := [6, 11]) (by kernel_rfl) (by simp) ?_
          refine AllReadyH.cons (o := ⟨_, _, _, _, _, _⟩) rfl (fun K hK => ?_) ?_
          ·
            refine op_appB (v := v48) (xs := ps) (ys := [p]) (n := 1) el_sp (.tmp 48) (.tmp 50) rfl rfl o48 rfl rfl r50 (by decide) (by have := Hnp.out; omega) hbc.size ?_
            intro v51 V51 o51 hg hat
            have hHeldN := own_grown o48 hHeld hg hWd7
            refine hK.out _ _ ?_ (fun hHeld2 => ?_)
            · exact hHeldN
            have hbcN := own_grown o48 hbc hg (Nat.le_refl _)
            clear hK K hHeldN hbc; have hHeld := hHeld2; clear hHeld2
            have hbc := hbcN; clear hbcN
            try simp only [Act.put, List.setIfInBounds_toArray, List.set_cons_zero, List.set_cons_succ]
            refine wpAnyH_ready (rs := [7, 11]) (by kernel_rfl) (by simp) ?_
            refine AllReadyH.cons (o := ⟨_, _, _, _, _, _⟩) rfl (fun K hK => ?_) ?_
            ·
              obtain ⟨A51, c51, rfl, q51⟩ := o51.rdn (np + 1) (by rw [List.length_append, ← Hnp.out]; rfl)
              go_simp
              refine (source_any _ _ ys (ps ++ [p]) n c (np + 1) _ _ Hny.out hny2 ((ry.below hHeld).more hHeld.size) (by rw [List.length_append, ← Hnp.out]; rfl) (by omega) q51).mono ?_
              rintro e V52 ⟨rfl, hb⟩
              go_wp2_with fail
              have hHeldN := hHeld.trans (hb.mono hHeld.size)
              have o51 := o51.bel hb
              have hbc := hbc.trans (hb.mono hbc.size)
              refine hK.out _ _ ?_ (fun hHeld2 => ?_)
              · exact hHeldN
              clear hK K hHeldN hb; have hHeld := hHeld2; clear hHeld2
              try simp only [Act.put, List.setIfInBounds_toArray, List.set_cons_zero, List.set_cons_succ]
              refine wpAnyH_take (i := 8) (oi := ⟨_, _, _, _, _, _⟩) (v := ?_) rfl (by kernel_rfl) (by kernel_rfl) (by kernel_rfl) (fun _ _ _ h => h) (Or.inl ⟨by rfl, ?_⟩) hHeld ?_
              rotate_left
              · (intro w hSw; (try dsimp only at hSw); go_simp; try (with_reducible rfl))
              try simp only [Act.put, List.setIfInBounds_toArray, List.set_cons_zero, List.set_cons_succ]
              refine wpAnyH_take (i := 9) (oi := ⟨_, _, _, _, _, _⟩) (v := ?_) rfl (by kernel_rfl) (by kernel_rfl) (by kernel_rfl) (fun _ _ _ h => h) (Or.inl ⟨by rfl, ?_⟩) hHeld ?_
              rotate_left
              · (intro w hSw; (try dsimp only at hSw); go_simp; try (with_reducible rfl))
              try simp only [Act.put, List.setIfInBounds_toArray, List.set_cons_zero, List.set_cons_succ]
              refine wpAnyH_take (i := 10) (oi := ⟨_, _, _, _, _, _⟩) (v := ?_) rfl (by kernel_rfl) (by kernel_rfl) (by kernel_rfl) (fun _ _ _ h => h) (Or.inl ⟨by rfl, ?_⟩) hHeld ?_
              rotate_left
              · (intro w hSw; (try dsimp only at hSw); go_simp; try (with_reducible rfl))
              try simp only [Act.put, List.setIfInBounds_toArray, List.set_cons_zero, List.set_cons_succ]
              refine wpAnyH_ready (rs := [11]) (by kernel_rfl) (by simp) ?_
              refine AllReadyH.cons (o := ⟨_, _, _, _, _, _⟩) rfl (fun K hK => ?_) AllReadyH.nil
              go_simp
              obtain ⟨b14, V14, eb14, ev14, hx14, hb, hz14⟩ := mk_bx V52 #[.int .i64 0, .int .i64 0] 24
              rw [ev14.out, eb14.out]
              have hge14 : w5.heap.size ≤ b14 := by have := eb14.out; have := hHeld.size; omega
              try have n46 : b46 ≠ b14 := by have hq : b46 < V52.heap.size := (o46.blockG rfl).2; have := eb14.out; omega
              try have n14 : ¬ (some b14 = v48.ownBlock) := fun e => by have := (o48.blockG e.symm).2; have := eb14.out; omega
              clear ev14 eb14 hz14
              have hHeldN := hHeld.trans (hb.mono hHeld.size)
              have o51 := o51.bel hb
              have hbc := hbc.trans (hb.mono hbc.size)
              refine hK.out _ _ ?_ (fun hHeld2 => ?_)
              · exact hHeldN
              clear hK K hHeldN hb; have hHeld := hHeld2; clear hHeld2
              try simp only [Act.put, List.setIfInBounds_toArray, List.set_cons_zero, List.set_cons_succ]
              exact hCut b46 v48 b50 A51 c51 b14 V14 ⟨hx14, hge14, hbc, hHeld⟩
            refine AllReadyH.cons (o := ⟨_, _, _, _, _, _⟩) rfl (fun K hK => ?_) AllReadyH.nil
            go_simp
            obtain ⟨b14, V14, eb14, ev14, hx14, hb, hz14⟩ := mk_bx V51 #[.int .i64 0, .int .i64 0] 24
            rw [ev14.out, eb14.out]
            have hge14 : w5.heap.size ≤ b14 := by have := eb14.out; have := hHeld.size; omega
            try have n46 : b46 ≠ b14 := by have hq : b46 < V51.heap.size := (o46.blockG rfl).2; have := eb14.out; omega
            try have n14 : ¬ (some b14 = v48.ownBlock) := fun e => by have := (o48.blockG e.symm).2; have := eb14.out; omega
            clear ev14 eb14 hz14
            have hHeldN := hHeld.trans (hb.mono hHeld.size)
            have o51 := o51.bel hb
            have hbc := hbc.trans (hb.mono hbc.size)
            refine hK.out _ _ ?_ (fun hHeld2 => ?_)
            · exact hHeldN
            clear hK K hHeldN hb; have hHeld := hHeld2; clear hHeld2
            try simp only [Act.put, List.setIfInBounds_toArray, List.set_cons_zero, List.set_cons_succ]
            refine wpAnyH_ready (rs := [7]) (by kernel_rfl) (by simp) ?_
            refine AllReadyH.cons (o := ⟨_, _, _, _, _, _⟩) rfl (fun K hK => ?_) AllReadyH.nil
            obtain ⟨A51, c51, rfl, q51⟩ := o51.rdn (np + 1) (by rw [List.length_append, ← Hnp.out]; rfl)
            go_simp
            refine (source_any _ _ ys (ps ++ [p]) n c (np + 1) _ _ Hny.out hny2 ((ry.below hHeld).more hHeld.size) (by rw [List.length_append, ← Hnp.out]; rfl) (by omega) q51).mono ?_
            rintro e V52 ⟨rfl, hb⟩
            go_wp2_with fail
            have hHeldN := hHeld.trans (hb.mono hHeld.size)
            have o51 := o51.bel hb
            have hx14 := hx14.bel hb
            have hbc := hbc.trans (hb.mono hbc.size)
            refine hK.out _ _ ?_ (fun hHeld2 => ?_)
            · exact hHeldN
            clear hK K hHeldN hb; have hHeld := hHeld2; clear hHeld2
            try simp only [Act.put, List.setIfInBounds_toArray, List.set_cons_zero, List.set_cons_succ]
            refine wpAnyH_take (i := 8) (oi := ⟨_, _, _, _, _, _⟩) (v := ?_) rfl (by kernel_rfl) (by kernel_rfl) (by kernel_rfl) (fun _ _ _ h => h) (Or.inl ⟨by rfl, ?_⟩) hHeld ?_
            rotate_left
            · (intro w hSw; (try dsimp only at hSw); go_simp; try (with_reducible rfl))
            try simp only [Act.put, List.setIfInBounds_toArray, List.set_cons_zero, List.set_cons_succ]
            refine wpAnyH_take (i := 9) (oi := ⟨_, _, _, _, _, _⟩) (v := ?_) rfl (by kernel_rfl) (by kernel_rfl) (by kernel_rfl) (fun _ _ _ h => h) (Or.inl ⟨by rfl, ?_⟩) hHeld ?_
            rotate_left
            · (intro w hSw; (try dsimp only at hSw); go_simp; try (with_reducible rfl))
            try simp only [Act.put, List.setIfInBounds_toArray, List.set_cons_zero, List.set_cons_succ]
            refine wpAnyH_take (i := 10) (oi := ⟨_, _, _, _, _, _⟩) (v := ?_) rfl (by kernel_rfl) (by kernel_rfl) (by kernel_rfl) (fun _ _ _ h => h) (Or.inl ⟨by rfl, ?_⟩) hHeld ?_
            rotate_left
            · (intro w hSw; (try dsimp only at hSw); go_simp; try (with_reducible rfl))
            try simp only [Act.put, List.setIfInBounds_toArray, List.set_cons_zero, List.set_cons_succ]
            exact hCut b46 v48 b50 A51 c51 b14 V52 ⟨hx14, hge14, hbc, hHeld⟩
          refine AllReadyH.cons (o := ⟨_, _, _, _, _, _⟩) rfl (fun K hK => ?_) AllReadyH.nil
          go_simp
          obtain ⟨b14, V14, eb14, ev14, hx14, hb, hz14⟩ := mk_bx V48 #[.int .i64 0, .int .i64 0] 24
          rw [ev14.out, eb14.out]
          have hge14 : w5.heap.size ≤ b14 := by have := eb14.out; have := hHeld.size; omega
          try have n46 : b46 ≠ b14 := by have hq : b46 < V48.heap.size := (o46.blockG rfl).2; have := eb14.out; omega
          try have n14 : ¬ (some b14 = v48.ownBlock) := fun e => by have := (o48.blockG e.symm).2; have := eb14.out; omega
          clear ev14 eb14 hz14
          have hHeldN := hHeld.trans (hb.mono hHeld.size)
          have r50 := r50.bel hb
          have o46 := o46.bel hb
          have o48 := o48.bel hb
          have hbc := hbc.trans (hb.mono hbc.size)
          refine hK.out _ _ ?_ (fun hHeld2 => ?_)
          · exact hHeldN
          clear hK K hHeldN hb; have hHeld := hHeld2; clear hHeld2
          try simp only [Act.put, List.setIfInBounds_toArray, List.set_cons_zero, List.set_cons_succ]
          refine wpAnyH_ready (rs := [6]) (by kernel_rfl) (by simp) ?_
          refine AllReadyH.cons (o := ⟨_, _, _, _, _, _⟩) rfl (fun K hK => ?_) AllReadyH.nil
          refine op_appB (v := v48) (xs := ps) (ys := [p]) (n := 1) el_sp (.tmp 48) (.tmp 50) rfl rfl o48 rfl rfl r50 (by decide) (by have := Hnp.out; omega) hbc.size ?_
          intro v51 V51 o51 hg hat
          have hHeldN := own_grown o48 hHeld hg hWd7
          have hx14 := hx14.kept (Kept.grown hg) n14
          refine hK.out _ _ ?_ (fun hHeld2 => ?_)
          · exact hHeldN
          have hbcN := own_grown o48 hbc hg (Nat.le_refl _)
          clear hK K hHeldN hbc; have hHeld := hHeld2; clear hHeld2
          have hbc := hbcN; clear hbcN
          try simp only [Act.put, List.setIfInBounds_toArray, List.set_cons_zero, List.set_cons_succ]
          refine wpAnyH_ready (rs := [7]) (by kernel_rfl) (by simp) ?_
          refine AllReadyH.cons (o := ⟨_, _, _, _, _, _⟩) rfl (fun K hK => ?_) AllReadyH.nil
          obtain ⟨A51, c51, rfl, q51⟩ := o51.rdn (np + 1) (by rw [List.length_append, ← Hnp.out]; rfl)
          go_simp
          refine (source_any _ _ ys (ps ++ [p]) n c (np + 1) _ _ Hny.out hny2 ((ry.below hHeld).more hHeld.size) (by rw [List.length_append, ← Hnp.out]; rfl) (by omega) q51).mono ?_
          rintro e V52 ⟨rfl, hb⟩
          go_wp2_with fail
          have hHeldN := hHeld.trans (hb.mono hHeld.size)
          have o51 := o51.bel hb
          have hx14 := hx14.bel hb
          have hbc := hbc.trans (hb.mono hbc.size)
          refine hK.out _ _ ?_ (fun hHeld2 => ?_)
          · exact hHeldN
          clear hK K hHeldN hb; have hHeld := hHeld2; clear hHeld2
          try simp only [Act.put, List.setIfInBounds_toArray, List.set_cons_zero, List.set_cons_succ]
          refine wpAnyH_take (i := 8) (oi := ⟨_, _, _, _, _, _⟩) (v := ?_) rfl (by kernel_rfl) (by kernel_rfl) (by kernel_rfl) (fun _ _ _ h => h) (Or.inl ⟨by rfl, ?_⟩) hHeld ?_
          rotate_left
          · (intro w hSw; (try dsimp only at hSw); go_simp; try (with_reducible rfl))
          try simp only [Act.put, List.setIfInBounds_toArray, List.set_cons_zero, List.set_cons_succ]
          refine wpAnyH_take (i := 9) (oi := ⟨_, _, _, _, _, _⟩) (v := ?_) rfl (by kernel_rfl) (by kernel_rfl) (by kernel_rfl) (fun _ _ _ h => h) (Or.inl ⟨by rfl, ?_⟩) hHeld ?_
          rotate_left
          · (intro w hSw; (try dsimp only at hSw); go_simp; try (with_reducible rfl))
          try simp only [Act.put, List.setIfInBounds_toArray, List.set_cons_zero, List.set_cons_succ]
          refine wpAnyH_take (i := 10) (oi := ⟨_, _, _, _, _, _⟩) (v := ?_) rfl (by kernel_rfl) (by kernel_rfl) (by kernel_rfl) (fun _ _ _ h => h) (Or.inl ⟨by rfl, ?_⟩) hHeld ?_
          rotate_left
          · (intro w hSw; (try dsimp only at hSw); go_simp; try (with_reducible rfl))
          try simp only [Act.put, List.setIfInBounds_toArray, List.set_cons_zero, List.set_cons_succ]
          exact hCut b46 v48 b50 A51 c51 b14 V52 ⟨hx14, hge14, hbc, hHeld⟩
        refine AllReadyH.cons (o := ⟨_, _, _, _, _, _⟩) rfl (fun K hK => ?_) AllReadyH.nil
        go_simp
        obtain ⟨b14, V14, eb14, ev14, hx14, hb, hz14⟩ := mk_bx V46 #[.int .i64 0, .int .i64 0] 24
        rw [ev14.out, eb14.out]
        have hge14 : w5.heap.size ≤ b14 := by have := eb14.out; have := hHeld.size; omega
        try have n46 : b46 ≠ b14 := by have hq : b46 < V46.heap.size := (o46.blockG rfl).2; have := eb14.out; omega
        try have n14 : ¬ (some b14 = v48.ownBlock) := fun e => by have := (o48.blockG e.symm).2; have := eb14.out; omega
        clear ev14 eb14 hz14
        have hHeldN := hHeld.trans (hb.mono hHeld.size)
        have r50 := r50.bel hb
        have o46 := o46.bel hb
        have hbc := hbc.trans (hb.mono hbc.size)
        refine hK.out _ _ ?_ (fun hHeld2 => ?_)
        · exact hHeldN
        clear hK K hHeldN hb; have hHeld := hHeld2; clear hHeld2
        try simp only [Act.put, List.setIfInBounds_toArray, List.set_cons_zero, List.set_cons_succ]
        refine wpAnyH_ready (rs := [3]) (by kernel_rfl) (by simp) ?_
        refine AllReadyH.cons (o := ⟨_, _, _, _, _, _⟩) rfl (fun K hK => ?_) AllReadyH.nil
        refine op_freshB el_sp (.tmp 46) (.tmp 47) rfl rfl o46 Hnp.out.symm rfl ((rp.below hHeld).more hHeld.size) (by decide) (by omega) hbc.size ?_
        intro v48 V48 o48 hb hat48
        try have n14 : ¬ (some b14 = v48.ownBlock) := fun e => by (rcases hat48 with h | h <;> (rw [h] at e; have e := Option.some.inj e; have := hx14.lt; omega))
        have hHeldN := hHeld.trans (hb.mono hHeld.size)
        have r50 := r50.bel hb
        have o46 := o46.bel hb
        have hx14 := hx14.bel hb
        have hbc := hbc.trans (hb.mono hbc.size)
        refine hK.out _ _ ?_ (fun hHeld2 => ?_)
        · exact hHeldN
        clear hK K hHeldN hb; have hHeld := hHeld2; clear hHeld2
        try simp only [Act.put, List.setIfInBounds_toArray, List.set_cons_zero, List.set_cons_succ]
        refine wpAnyH_ready (rs := [6]) (by kernel_rfl) (by simp) ?_
        refine AllReadyH.cons (o := ⟨_, _, _, _, _, _⟩) rfl (fun K hK => ?_) AllReadyH.nil
        refine op_appB (v := v48) (xs := ps) (ys := [p]) (n := 1) el_sp (.tmp 48) (.tmp 50) rfl rfl o48 rfl rfl r50 (by decide) (by have := Hnp.out; omega) hbc.size ?_
        intro v51 V51 o51 hg hat
        have hHeldN := own_grown o48 hHeld hg hWd7
        have hx14 := hx14.kept (Kept.grown hg) n14
        refine hK.out _ _ ?_ (fun hHeld2 => ?_)
        · exact hHeldN
        have hbcN := own_grown o48 hbc hg (Nat.le_refl _)
        clear hK K hHeldN hbc; have hHeld := hHeld2; clear hHeld2
        have hbc := hbcN; clear hbcN
        try simp only [Act.put, List.setIfInBounds_toArray, List.set_cons_zero, List.set_cons_succ]
        refine wpAnyH_ready (rs := [7]) (by kernel_rfl) (by simp) ?_
        refine AllReadyH.cons (o := ⟨_, _, _, _, _, _⟩) rfl (fun K hK => ?_) AllReadyH.nil
        obtain ⟨A51, c51, rfl, q51⟩ := o51.rdn (np + 1) (by rw [List.length_append, ← Hnp.out]; rfl)
        go_simp
        refine (source_any _ _ ys (ps ++ [p]) n c (np + 1) _ _ Hny.out hny2 ((ry.below hHeld).more hHeld.size) (by rw [List.length_append, ← Hnp.out]; rfl) (by omega) q51).mono ?_
        rintro e V52 ⟨rfl, hb⟩
        go_wp2_with fail
        have hHeldN := hHeld.trans (hb.mono hHeld.size)
        have o51 := o51.bel hb
        have hx14 := hx14.bel hb
        have hbc := hbc.trans (hb.mono hbc.size)
        refine hK.out _ _ ?_ (fun hHeld2 => ?_)
        · exact hHeldN
        clear hK K hHeldN hb; have hHeld := hHeld2; clear hHeld2
        try simp only [Act.put, List.setIfInBounds_toArray, List.set_cons_zero, List.set_cons_succ]
        refine wpAnyH_take (i := 8) (oi := ⟨_, _, _, _, _, _⟩) (v := ?_) rfl (by kernel_rfl) (by kernel_rfl) (by kernel_rfl) (fun _ _ _ h => h) (Or.inl ⟨by rfl, ?_⟩) hHeld ?_
        rotate_left
        · (intro w hSw; (try dsimp only at hSw); go_simp; try (with_reducible rfl))
        try simp only [Act.put, List.setIfInBounds_toArray, List.set_cons_zero, List.set_cons_succ]
        refine wpAnyH_take (i := 9) (oi := ⟨_, _, _, _, _, _⟩) (v := ?_) rfl (by kernel_rfl) (by kernel_rfl) (by kernel_rfl) (fun _ _ _ h => h) (Or.inl ⟨by rfl, ?_⟩) hHeld ?_
        rotate_left
        · (intro w hSw; (try dsimp only at hSw); go_simp; try (with_reducible rfl))
        try simp only [Act.put, List.setIfInBounds_toArray, List.set_cons_zero, List.set_cons_succ]
        refine wpAnyH_take (i := 10) (oi := ⟨_, _, _, _, _, _⟩) (v := ?_) rfl (by kernel_rfl) (by kernel_rfl) (by kernel_rfl) (fun _ _ _ h => h) (Or.inl ⟨by rfl, ?_⟩) hHeld ?_
        rotate_left
        · (intro w hSw; (try dsimp only at hSw); go_simp; try (with_reducible rfl))
        try simp only [Act.put, List.setIfInBounds_toArray, List.set_cons_zero, List.set_cons_succ]
        exact hCut b46 v48 b50 A51 c51 b14 V52 ⟨hx14, hge14, hbc, hHeld⟩
      refine AllReadyH.cons (o := ⟨_, _, _, _, _, _⟩) rfl (fun K hK => ?_) AllReadyH.nil
      go_simp
      obtain ⟨b14, V14, eb14, ev14, hx14, hb, hz14⟩ := mk_bx V50 #[.int .i64 0, .int .i64 0] 24
      rw [ev14.out, eb14.out]
      have hge14 : w5.heap.size ≤ b14 := by have := eb14.out; have := hHeld.size; omega
      try have n46 : b46 ≠ b14 := by have hq : b46 < V50.heap.size := (o46.blockG rfl).2; have := eb14.out; omega
      try have n14 : ¬ (some b14 = v48.ownBlock) := fun e => by have := (o48.blockG e.symm).2; have := eb14.out; omega
      clear ev14 eb14 hz14
      have hHeldN := hHeld.trans (hb.mono hHeld.size)
      have r50 := r50.bel hb
      have hbc := hbc.trans (hb.mono hbc.size)
      refine hK.out _ _ ?_ (fun hHeld2 => ?_)
      · exact hHeldN
      clear hK K hHeldN hb; have hHeld := hHeld2; clear hHeld2
      try simp only [Act.put, List.setIfInBounds_toArray, List.set_cons_zero, List.set_cons_succ]
      refine wpAnyH_ready (rs := [1]) (by kernel_rfl) (by simp) ?_
      refine AllReadyH.cons (o := ⟨_, _, _, _, _, _⟩) rfl (fun K hK => ?_) AllReadyH.nil
      go_simp
      obtain ⟨b46, V46, eb46, ev46, o46, hb⟩ := mk_own (cells := Sp.cells) V14 #[] 24 2 [] Sp.len rfl (by decide) Wd7.heap.size hbc.size
      try have n46 : b46 ≠ b14 := by have := hx14.lt; have := eb46.out; omega
      rw [ev46.out, eb46.out]
      have hHeldN := hHeld.trans (hb.mono hHeld.size)
      have r50 := r50.bel hb
      have hx14 := hx14.bel hb
      have hbc := hbc.trans (hb.mono hbc.size)
      refine hK.out _ _ ?_ (fun hHeld2 => ?_)
      · exact hHeldN
      clear hK K hHeldN hb; have hHeld := hHeld2; clear hHeld2
      try simp only [Act.put, List.setIfInBounds_toArray, List.set_cons_zero, List.set_cons_succ]
      refine wpAnyH_ready (rs := [3]) (by kernel_rfl) (by simp) ?_
      refine AllReadyH.cons (o := ⟨_, _, _, _, _, _⟩) rfl (fun K hK => ?_) AllReadyH.nil
      refine op_freshB el_sp (.tmp 46) (.tmp 47) rfl rfl o46 Hnp.out.symm rfl ((rp.below hHeld).more hHeld.size) (by decide) (by omega) hbc.size ?_
      intro v48 V48 o48 hb hat48
      try have n14 : ¬ (some b14 = v48.ownBlock) := fun e => by (rcases hat48 with h | h <;> (rw [h] at e; have e := Option.some.inj e; have := hx14.lt; omega))
      have hHeldN := hHeld.trans (hb.mono hHeld.size)
      have r50 := r50.bel hb
      have hx14 := hx14.bel hb
      have o46 := o46.bel hb
      have hbc := hbc.trans (hb.mono hbc.size)
      refine hK.out _ _ ?_ (fun hHeld2 => ?_)
      · exact hHeldN
      clear hK K hHeldN hb; have hHeld := hHeld2; clear hHeld2
      try simp only [Act.put, List.setIfInBounds_toArray, List.set_cons_zero, List.set_cons_succ]
      refine wpAnyH_ready (rs := [6]) (by kernel_rfl) (by simp) ?_
      refine AllReadyH.cons (o := ⟨_, _, _, _, _, _⟩) rfl (fun K hK => ?_) AllReadyH.nil
      refine op_appB (v := v48) (xs := ps) (ys := [p]) (n := 1) el_sp (.tmp 48) (.tmp 50) rfl rfl o48 rfl rfl r50 (by decide) (by have := Hnp.out; omega) hbc.size ?_
      intro v51 V51 o51 hg hat
      have hHeldN := own_grown o48 hHeld hg hWd7
      have hx14 := hx14.kept (Kept.grown hg) n14
      refine hK.out _ _ ?_ (fun hHeld2 => ?_)
      · exact hHeldN
      have hbcN := own_grown o48 hbc hg (Nat.le_refl _)
      clear hK K hHeldN hbc; have hHeld := hHeld2; clear hHeld2
      have hbc := hbcN; clear hbcN
      try simp only [Act.put, List.setIfInBounds_toArray, List.set_cons_zero, List.set_cons_succ]
      refine wpAnyH_ready (rs := [7]) (by kernel_rfl) (by simp) ?_
      refine AllReadyH.cons (o := ⟨_, _, _, _, _, _⟩) rfl (fun K hK => ?_) AllReadyH.nil
      obtain ⟨A51, c51, rfl, q51⟩ := o51.rdn (np + 1) (by rw [List.length_append, ← Hnp.out]; rfl)
      go_simp
      refine (source_any _ _ ys (ps ++ [p]) n c (np + 1) _ _ Hny.out hny2 ((ry.below hHeld).more hHeld.size) (by rw [List.length_append, ← Hnp.out]; rfl) (by omega) q51).mono ?_
      rintro e V52 ⟨rfl, hb⟩
      go_wp2_with fail
      have hHeldN := hHeld.trans (hb.mono hHeld.size)
      have o51 := o51.bel hb
      have hx14 := hx14.bel hb
      have hbc := hbc.trans (hb.mono hbc.size)
      refine hK.out _ _ ?_ (fun hHeld2 => ?_)
      · exact hHeldN
      clear hK K hHeldN hb; have hHeld := hHeld2; clear hHeld2
      try simp only [Act.put, List.setIfInBounds_toArray, List.set_cons_zero, List.set_cons_succ]
      refine wpAnyH_take (i := 8) (oi := ⟨_, _, _, _, _, _⟩) (v := ?_) rfl (by kernel_rfl) (by kernel_rfl) (by kernel_rfl) (fun _ _ _ h => h) (Or.inl ⟨by rfl, ?_⟩) hHeld ?_
      rotate_left
      · (intro w hSw; (try dsimp only at hSw); go_simp; try (with_reducible rfl))
      try simp only [Act.put, List.setIfInBounds_toArray, List.set_cons_zero, List.set_cons_succ]
      refine wpAnyH_take (i := 9) (oi := ⟨_, _, _, _, _, _⟩) (v := ?_) rfl (by kernel_rfl) (by kernel_rfl) (by kernel_rfl) (fun _ _ _ h => h) (Or.inl ⟨by rfl, ?_⟩) hHeld ?_
      rotate_left
      · (intro w hSw; (try dsimp only at hSw); go_simp; try (with_reducible rfl))
      try simp only [Act.put, List.setIfInBounds_toArray, List.set_cons_zero, List.set_cons_succ]
      refine wpAnyH_take (i := 10) (oi := ⟨_, _, _, _, _, _⟩) (v := ?_) rfl (by kernel_rfl) (by kernel_rfl) (by kernel_rfl) (fun _ _ _ h => h) (Or.inl ⟨by rfl, ?_⟩) hHeld ?_
      rotate_left
      · (intro w hSw; (try dsimp only at hSw); go_simp; try (with_reducible rfl))
      try simp only [Act.put, List.setIfInBounds_toArray, List.set_cons_zero, List.set_cons_succ]
      exact hCut b46 v48 b50 A51 c51 b14 V52 ⟨hx14, hge14, hbc, hHeld⟩
    refine AllReadyH.cons (o := ⟨_, _, _, _, _, _⟩) rfl (fun K hK => ?_) AllReadyH.nil
    go_simp
    obtain ⟨b14, V14, eb14, ev14, hx14, hb, hz14⟩ := mk_bx Wd7 #[.int .i64 0, .int .i64 0] 24
    rw [ev14.out, eb14.out]
    have hge14 : w5.heap.size ≤ b14 := by have := eb14.out; have := hHeld.size; omega
    try have n46 : b46 ≠ b14 := by have hq : b46 < Wd7.heap.size := (o46.blockG rfl).2; have := eb14.out; omega
    try have n14 : ¬ (some b14 = v48.ownBlock) := fun e => by have := (o48.blockG e.symm).2; have := eb14.out; omega
    clear ev14 eb14 hz14
    have hHeldN := hHeld.trans (hb.mono hHeld.size)
    have hbc := hbc.trans (hb.mono hbc.size)
    refine hK.out _ _ ?_ (fun hHeld2 => ?_)
    · exact hHeldN
    clear hK K hHeldN hb; have hHeld := hHeld2; clear hHeld2
    try simp only [Act.put, List.setIfInBounds_toArray, List.set_cons_zero, List.set_cons_succ]
    refine wpAnyH_ready (rs := [1, 5]) (by kernel_rfl) (by simp) ?_
    refine AllReadyH.cons (o := ⟨_, _, _, _, _, _⟩) rfl (fun K hK => ?_) ?_
    ·
      go_simp
      obtain ⟨b46, V46, eb46, ev46, o46, hb⟩ := mk_own (cells := Sp.cells) V14 #[] 24 2 [] Sp.len rfl (by decide) Wd7.heap.size hbc.size
      try have n46 : b46 ≠ b14 := by have := hx14.lt; have := eb46.out; omega
      rw [ev46.out, eb46.out]
      have hHeldN := hHeld.trans (hb.mono hHeld.size)
      have hx14 := hx14.bel hb
      have hbc := hbc.trans (hb.mono hbc.size)
      refine hK.out _ _ ?_ (fun hHeld2 => ?_)
      · exact hHeldN
      clear hK K hHeldN hb; have hHeld := hHeld2; clear hHeld2
      try simp only [Act.put, List.setIfInBounds_toArray, List.set_cons_zero, List.set_cons_succ]
      refine wpAnyH_ready (rs := [3, 5]) (by kernel_rfl) (by simp) ?_
      refine AllReadyH.cons (o := ⟨_, _, _, _, _, _⟩) rfl (fun K hK => ?_) ?_
      ·
        refine op_freshB el_sp (.tmp 46) (.tmp 47) rfl rfl o46 Hnp.out.symm rfl ((rp.below hHeld).more hHeld.size) (by decide) (by omega) hbc.size ?_
        intro v48 V48 o48 hb hat48
        try have n14 : ¬ (some b14 = v48.ownBlock) := fun e => by (rcases hat48 with h | h <;> (rw [h] at e; have e := Option.some.inj e; have := hx14.lt; omega))
        have hHeldN := hHeld.trans (hb.mono hHeld.size)
        have hx14 := hx14.bel hb
        have o46 := o46.bel hb
        have hbc := hbc.trans (hb.mono hbc.size)
        refine hK.out _ _ ?_ (fun hHeld2 => ?_)
        · exact hHeldN
        clear hK K hHeldN hb; have hHeld := hHeld2; clear hHeld2
        try simp only [Act.put, List.setIfInBounds_toArray, List.set_cons_zero, List.set_cons_succ]
        refine wpAnyH_ready (rs := [5]) (by kernel_rfl) (by simp) ?_
        refine AllReadyH.cons (o := ⟨_, _, _, _, _, _⟩) rfl (fun K hK => ?_) AllReadyH.nil
        go_simp
        obtain ⟨b50, V50, eb50, ev50, r50, hb⟩ := mk_row (cells := Sp.cells) V48 #[.int .i64 p.lo, .int .i64 p.hi] 24 [p] rfl
        rw [ev50.out, eb50.out]
        have hHeldN := hHeld.trans (hb.mono hHeld.size)
        have hx14 := hx14.bel hb
        have o46 := o46.bel hb
        have o48 := o48.bel hb
        have hbc := hbc.trans (hb.mono hbc.size)
        refine hK.out _ _ ?_ (fun hHeld2 => ?_)
        · exact hHeldN
        clear hK K hHeldN hb; have hHeld := hHeld2; clear hHeld2
        try simp only [Act.put, List.setIfInBounds_toArray, List.set_cons_zero, List.set_cons_succ]
        refine wpAnyH_ready (rs := [6]) (by kernel_rfl) (by simp) ?_
        refine AllReadyH.cons (o := ⟨_, _, _, _, _, _⟩) rfl (fun K hK => ?_) AllReadyH.nil
        refine op_appB (v := v48) (xs := ps) (ys := [p]) (n := 1) el_sp (.tmp 48) (.tmp 50) rfl rfl o48 rfl rfl r50 (by decide) (by have := Hnp.out; omega) hbc.size ?_
        intro v51 V51 o51 hg hat
        have hHeldN := own_grown o48 hHeld hg hWd7
        have hx14 := hx14.kept (Kept.grown hg) n14
        refine hK.out _ _ ?_ (fun hHeld2 => ?_)
        · exact hHeldN
        have hbcN := own_grown o48 hbc hg (Nat.le_refl _)
        clear hK K hHeldN hbc; have hHeld := hHeld2; clear hHeld2
        have hbc := hbcN; clear hbcN
        try simp only [Act.put, List.setIfInBounds_toArray, List.set_cons_zero, List.set_cons_succ]
        refine wpAnyH_ready (rs := [7]) (by kernel_rfl) (by simp) ?_
        refine AllReadyH.cons (o := ⟨_, _, _, _, _, _⟩) rfl (fun K hK => ?_) AllReadyH.nil
        obtain ⟨A51, c51, rfl, q51⟩ := o51.rdn (np + 1) (by rw [List.length_append, ← Hnp.out]; rfl)
        go_simp
        refine (source_any _ _ ys (ps ++ [p]) n c (np + 1) _ _ Hny.out hny2 ((ry.below hHeld).more hHeld.size) (by rw [List.length_append, ← Hnp.out]; rfl) (by omega) q51).mono ?_
        rintro e V52 ⟨rfl, hb⟩
        go_wp2_with fail
        have hHeldN := hHeld.trans (hb.mono hHeld.size)
        have o51 := o51.bel hb
        have hx14 := hx14.bel hb
        have hbc := hbc.trans (hb.mono hbc.size)
        refine hK.out _ _ ?_ (fun hHeld2 => ?_)
        · exact hHeldN
        clear hK K hHeldN hb; have hHeld := hHeld2; clear hHeld2
        try simp only [Act.put, List.setIfInBounds_toArray, List.set_cons_zero, List.set_cons_succ]
        refine wpAnyH_take (i := 8) (oi := ⟨_, _, _, _, _, _⟩) (v := ?_) rfl (by kernel_rfl) (by kernel_rfl) (by kernel_rfl) (fun _ _ _ h => h) (Or.inl ⟨by rfl, ?_⟩) hHeld ?_
        rotate_left
        · (intro w hSw; (try dsimp only at hSw); go_simp; try (with_reducible rfl))
        try simp only [Act.put, List.setIfInBounds_toArray, List.set_cons_zero, List.set_cons_succ]
        refine wpAnyH_take (i := 9) (oi := ⟨_, _, _, _, _, _⟩) (v := ?_) rfl (by kernel_rfl) (by kernel_rfl) (by kernel_rfl) (fun _ _ _ h => h) (Or.inl ⟨by rfl, ?_⟩) hHeld ?_
        rotate_left
        · (intro w hSw; (try dsimp only at hSw); go_simp; try (with_reducible rfl))
        try simp only [Act.put, List.setIfInBounds_toArray, List.set_cons_zero, List.set_cons_succ]
        refine wpAnyH_take (i := 10) (oi := ⟨_, _, _, _, _, _⟩) (v := ?_) rfl (by kernel_rfl) (by kernel_rfl) (by kernel_rfl) (fun _ _ _ h => h) (Or.inl ⟨by rfl, ?_⟩) hHeld ?_
        rotate_left
        · (intro w hSw; (try dsimp only at hSw); go_simp; try (with_reducible rfl))
        try simp only [Act.put, List.setIfInBounds_toArray, List.set_cons_zero, List.set_cons_succ]
        exact hCut b46 v48 b50 A51 c51 b14 V52 ⟨hx14, hge14, hbc, hHeld⟩
      refine AllReadyH.cons (o := ⟨_, _, _, _, _, _⟩) rfl (fun K hK => ?_) AllReadyH.nil
      go_simp
      obtain ⟨b50, V50, eb50, ev50, r50, hb⟩ := mk_row (cells := Sp.cells) V46 #[.int .i64 p.lo, .int .i64 p.hi] 24 [p] rfl
      rw [ev50.out, eb50.out]
      have hHeldN := hHeld.trans (hb.mono hHeld.size)
      have hx14 := hx14.bel hb
      have o46 := o46.bel hb
      have hbc := hbc.trans (hb.mono hbc.size)
      refine hK.out _ _ ?_ (fun hHeld2 => ?_)
      · exact hHeldN
      clear hK K hHeldN hb; have hHeld := hHeld2; clear hHeld2
      try simp only [Act.put, List.setIfInBounds_toArray, List.set_cons_zero, List.set_cons_succ]
      refine wpAnyH_ready (rs := [3]) (by kernel_rfl) (by simp) ?_
      refine AllReadyH.cons (o := ⟨_, _, _, _, _, _⟩) rfl (fun K hK => ?_) AllReadyH.nil
      refine op_freshB el_sp (.tmp 46) (.tmp 47) rfl rfl o46 Hnp.out.symm rfl ((rp.below hHeld).more hHeld.size) (by decide) (by omega) hbc.size ?_
      intro v48 V48 o48 hb hat48
      try have n14 : ¬ (some b14 = v48.ownBlock) := fun e => by (rcases hat48 with h | h <;> (rw [h] at e; have e := Option.some.inj e; have := hx14.lt; omega))
      have hHeldN := hHeld.trans (hb.mono hHeld.size)
      have hx14 := hx14.bel hb
      have o46 := o46.bel hb
      have r50 := r50.bel hb
      have hbc := hbc.trans (hb.mono hbc.size)
      refine hK.out _ _ ?_ (fun hHeld2 => ?_)
      · exact hHeldN
      clear hK K hHeldN hb; have hHeld := hHeld2; clear hHeld2
      try simp only [Act.put, List.setIfInBounds_toArray, List.set_cons_zero, List.set_cons_succ]
      refine wpAnyH_ready (rs := [6]) (by kernel_rfl) (by simp) ?_
      refine AllReadyH.cons (o := ⟨_, _, _, _, _, _⟩) rfl (fun K hK => ?_) AllReadyH.nil
      refine op_appB (v := v48) (xs := ps) (ys := [p]) (n := 1) el_sp (.tmp 48) (.tmp 50) rfl rfl o48 rfl rfl r50 (by decide) (by have := Hnp.out; omega) hbc.size ?_
      intro v51 V51 o51 hg hat
      have hHeldN := own_grown o48 hHeld hg hWd7
      have hx14 := hx14.kept (Kept.grown hg) n14
      refine hK.out _ _ ?_ (fun hHeld2 => ?_)
      · exact hHeldN
      have hbcN := own_grown o48 hbc hg (Nat.le_refl _)
      clear hK K hHeldN hbc; have hHeld := hHeld2; clear hHeld2
      have hbc := hbcN; clear hbcN
      try simp only [Act.put, List.setIfInBounds_toArray, List.set_cons_zero, List.set_cons_succ]
      refine wpAnyH_ready (rs := [7]) (by kernel_rfl) (by simp) ?_
      refine AllReadyH.cons (o := ⟨_, _, _, _, _, _⟩) rfl (fun K hK => ?_) AllReadyH.nil
      obtain ⟨A51, c51, rfl, q51⟩ := o51.rdn (np + 1) (by rw [List.length_append, ← Hnp.out]; rfl)
      go_simp
      refine (source_any _ _ ys (ps ++ [p]) n c (np + 1) _ _ Hny.out hny2 ((ry.below hHeld).more hHeld.size) (by rw [List.length_append, ← Hnp.out]; rfl) (by omega) q51).mono ?_
      rintro e V52 ⟨rfl, hb⟩
      go_wp2_with fail
      have hHeldN := hHeld.trans (hb.mono hHeld.size)
      have o51 := o51.bel hb
      have hx14 := hx14.bel hb
      have hbc := hbc.trans (hb.mono hbc.size)
      refine hK.out _ _ ?_ (fun hHeld2 => ?_)
      · exact hHeldN
      clear hK K hHeldN hb; have hHeld := hHeld2; clear hHeld2
      try simp only [Act.put, List.setIfInBounds_toArray, List.set_cons_zero, List.set_cons_succ]
      refine wpAnyH_take (i := 8) (oi := ⟨_, _, _, _, _, _⟩) (v := ?_) rfl (by kernel_rfl) (by kernel_rfl) (by kernel_rfl) (fun _ _ _ h => h) (Or.inl ⟨by rfl, ?_⟩) hHeld ?_
      rotate_left
      · (intro w hSw; (try dsimp only at hSw); go_simp; try (with_reducible rfl))
      try simp only [Act.put, List.setIfInBounds_toArray, List.set_cons_zero, List.set_cons_succ]
      refine wpAnyH_take (i := 9) (oi := ⟨_, _, _, _, _, _⟩) (v := ?_) rfl (by kernel_rfl) (by kernel_rfl) (by kernel_rfl) (fun _ _ _ h => h) (Or.inl ⟨by rfl, ?_⟩) hHeld ?_
      rotate_left
      · (intro w hSw; (try dsimp only at hSw); go_simp; try (with_reducible rfl))
      try simp only [Act.put, List.setIfInBounds_toArray, List.set_cons_zero, List.set_cons_succ]
      refine wpAnyH_take (i := 10) (oi := ⟨_, _, _, _, _, _⟩) (v := ?_) rfl (by kernel_rfl) (by kernel_rfl) (by kernel_rfl) (fun _ _ _ h => h) (Or.inl ⟨by rfl, ?_⟩) hHeld ?_
      rotate_left
      · (intro w hSw; (try dsimp only at hSw); go_simp; try (with_reducible rfl))
      try simp only [Act.put, List.setIfInBounds_toArray, List.set_cons_zero, List.set_cons_succ]
      exact hCut b46 v48 b50 A51 c51 b14 V52 ⟨hx14, hge14, hbc, hHeld⟩
    refine AllReadyH.cons (o := ⟨_, _, _, _, _, _⟩) rfl (fun K hK => ?_) AllReadyH.nil
    go_simp
    obtain ⟨b50, V50, eb50, ev50, r50, hb⟩ := mk_row (cells := Sp.cells) V14 #[.int .i64 p.lo, .int .i64 p.hi] 24 [p] rfl
    rw [ev50.out, eb50.out]
    have hHeldN := hHeld.trans (hb.mono hHeld.size)
    have hx14 := hx14.bel hb
    have hbc := hbc.trans (hb.mono hbc.size)
    refine hK.out _ _ ?_ (fun hHeld2 => ?_)
    · exact hHeldN
    clear hK K hHeldN hb; have hHeld := hHeld2; clear hHeld2
    try simp only [Act.put, List.setIfInBounds_toArray, List.set_cons_zero, List.set_cons_succ]
    refine wpAnyH_ready (rs := [1]) (by kernel_rfl) (by simp) ?_
    refine AllReadyH.cons (o := ⟨_, _, _, _, _, _⟩) rfl (fun K hK => ?_) AllReadyH.nil
    go_simp
    obtain ⟨b46, V46, eb46, ev46, o46, hb⟩ := mk_own (cells := Sp.cells) V50 #[] 24 2 [] Sp.len rfl (by decide) Wd7.heap.size hbc.size
    try have n46 : b46 ≠ b14 := by have := hx14.lt; have := eb46.out; omega
    rw [ev46.out, eb46.out]
    have hHeldN := hHeld.trans (hb.mono hHeld.size)
    have hx14 := hx14.bel hb
    have r50 := r50.bel hb
    have hbc := hbc.trans (hb.mono hbc.size)
    refine hK.out _ _ ?_ (fun hHeld2 => ?_)
    · exact hHeldN
    clear hK K hHeldN hb; have hHeld := hHeld2; clear hHeld2
    try simp only [Act.put, List.setIfInBounds_toArray, List.set_cons_zero, List.set_cons_succ]
    refine wpAnyH_ready (rs := [3]) (by kernel_rfl) (by simp) ?_
    refine AllReadyH.cons (o := ⟨_, _, _, _, _, _⟩) rfl (fun K hK => ?_) AllReadyH.nil
    refine op_freshB el_sp (.tmp 46) (.tmp 47) rfl rfl o46 Hnp.out.symm rfl ((rp.below hHeld).more hHeld.size) (by decide) (by omega) hbc.size ?_
    intro v48 V48 o48 hb hat48
    try have n14 : ¬ (some b14 = v48.ownBlock) := fun e => by (rcases hat48 with h | h <;> (rw [h] at e; have e := Option.some.inj e; have := hx14.lt; omega))
    have hHeldN := hHeld.trans (hb.mono hHeld.size)
    have hx14 := hx14.bel hb
    have r50 := r50.bel hb
    have o46 := o46.bel hb
    have hbc := hbc.trans (hb.mono hbc.size)
    refine hK.out _ _ ?_ (fun hHeld2 => ?_)
    · exact hHeldN
    clear hK K hHeldN hb; have hHeld := hHeld2; clear hHeld2
    try simp only [Act.put, List.setIfInBounds_toArray, List.set_cons_zero, List.set_cons_succ]
    refine wpAnyH_ready (rs := [6]) (by kernel_rfl) (by simp) ?_
    refine AllReadyH.cons (o := ⟨_, _, _, _, _, _⟩) rfl (fun K hK => ?_) AllReadyH.nil
    refine op_appB (v := v48) (xs := ps) (ys := [p]) (n := 1) el_sp (.tmp 48) (.tmp 50) rfl rfl o48 rfl rfl r50 (by decide) (by have := Hnp.out; omega) hbc.size ?_
    intro v51 V51 o51 hg hat
    have hHeldN := own_grown o48 hHeld hg hWd7
    have hx14 := hx14.kept (Kept.grown hg) n14
    refine hK.out _ _ ?_ (fun hHeld2 => ?_)
    · exact hHeldN
    have hbcN := own_grown o48 hbc hg (Nat.le_refl _)
    clear hK K hHeldN hbc; have hHeld := hHeld2; clear hHeld2
    have hbc := hbcN; clear hbcN
    try simp only [Act.put, List.setIfInBounds_toArray, List.set_cons_zero, List.set_cons_succ]
    refine wpAnyH_ready (rs := [7]) (by kernel_rfl) (by simp) ?_
    refine AllReadyH.cons (o := ⟨_, _, _, _, _, _⟩) rfl (fun K hK => ?_) AllReadyH.nil
    obtain ⟨A51, c51, rfl, q51⟩ := o51.rdn (np + 1) (by rw [List.length_append, ← Hnp.out]; rfl)
    go_simp
    refine (source_any _ _ ys (ps ++ [p]) n c (np + 1) _ _ Hny.out hny2 ((ry.below hHeld).more hHeld.size) (by rw [List.length_append, ← Hnp.out]; rfl) (by omega) q51).mono ?_
    rintro e V52 ⟨rfl, hb⟩
    go_wp2_with fail
    have hHeldN := hHeld.trans (hb.mono hHeld.size)
    have o51 := o51.bel hb
    have hx14 := hx14.bel hb
    have hbc := hbc.trans (hb.mono hbc.size)
    refine hK.out _ _ ?_ (fun hHeld2 => ?_)
    · exact hHeldN
    clear hK K hHeldN hb; have hHeld := hHeld2; clear hHeld2
    try simp only [Act.put, List.setIfInBounds_toArray, List.set_cons_zero, List.set_cons_succ]
    refine wpAnyH_take (i := 8) (oi := ⟨_, _, _, _, _, _⟩) (v := ?_) rfl (by kernel_rfl) (by kernel_rfl) (by kernel_rfl) (fun _ _ _ h => h) (Or.inl ⟨by rfl, ?_⟩) hHeld ?_
    rotate_left
    · (intro w hSw; (try dsimp only at hSw); go_simp; try (with_reducible rfl))
    try simp only [Act.put, List.setIfInBounds_toArray, List.set_cons_zero, List.set_cons_succ]
    refine wpAnyH_take (i := 9) (oi := ⟨_, _, _, _, _, _⟩) (v := ?_) rfl (by kernel_rfl) (by kernel_rfl) (by kernel_rfl) (fun _ _ _ h => h) (Or.inl ⟨by rfl, ?_⟩) hHeld ?_
    rotate_left
    · (intro w hSw; (try dsimp only at hSw); go_simp; try (with_reducible rfl))
    try simp only [Act.put, List.setIfInBounds_toArray, List.set_cons_zero, List.set_cons_succ]
    refine wpAnyH_take (i := 10) (oi := ⟨_, _, _, _, _, _⟩) (v := ?_) rfl (by kernel_rfl) (by kernel_rfl) (by kernel_rfl) (fun _ _ _ h => h) (Or.inl ⟨by rfl, ?_⟩) hHeld ?_
    rotate_left
    · (intro w hSw; (try dsimp only at hSw); go_simp; try (with_reducible rfl))
    try simp only [Act.put, List.setIfInBounds_toArray, List.set_cons_zero, List.set_cons_succ]
    exact hCut b46 v48 b50 A51 c51 b14 V52 ⟨hx14, hge14, hbc, hHeld⟩
  intro b46 v48 b50 A51 c51 b14 Wc7_1 ⟨hx14, hge14, hbN, hHeldN⟩
  have hbc := hbc.trans (hbN.mono hbc.size); clear hHeld hbN; have hHeld := hHeldN; clear hHeldN
  refine wpAnyH_ready (rs := [12]) (by kernel_rfl) (by simp) ?_
  refine AllReadyH.cons (o := ⟨_, _, _, _, _, _⟩) rfl (fun K hK => ?_) AllReadyH.nil
  obtain ⟨p0, p1, y0, y1⟩ := hx14.w2
  have hset := hx14.set2 (.int .i64 (srcV ys (ps ++ [p])).lo) (.int .i64 (srcV ys (ps ++ [p])).hi)
  have hHeldF := hHeld
  go_simp
  refine hK.out _ _ ?_ (fun hHeld2 => ?_)
  · (try dsimp only); exact (hHeldF.setCell (p := ⟨b14, 0, none⟩) hge14 _).setCell (p := ⟨b14, 1, none⟩) hge14 _
  clear hK K hHeld; have hHeld := hHeld2; clear hHeld2
  try simp only [Act.put, List.setIfInBounds_toArray, List.set_cons_zero, List.set_cons_succ]
  refine wpAnyH_take (i := 13) (oi := ⟨_, _, _, _, _, _⟩) (v := ?_) rfl (by kernel_rfl) (by kernel_rfl) (by kernel_rfl) (fun _ _ _ h => h) (Or.inl ⟨by rfl, ?_⟩) hHeld ?_
  rotate_left
  · (intro w hSw; (try dsimp only at hSw); go_simp; try (with_reducible rfl))
  try simp only [Act.put, List.setIfInBounds_toArray, List.set_cons_zero, List.set_cons_succ]
  refine wpAnyH_done (by kernel_rfl) ?_ _
  clear hHeld
  rw [Hv1.out] at hset
  rw [Hv1.out, He1.out]
  dsimp only at hset
  obtain ⟨w8, hw8⟩ : ∃ w8, Hid ((Wc7_1.setCell ⟨b14, 0, none⟩ (.int .i64 d0)).setCell ⟨b14, 1, none⟩ (.int .i64 d1) = w8) := ⟨_, hide rfl⟩
  have hb8 : Below w5.heap.size w5 w8 := by rw [← hw8.out]; exact (hHeldF.setCell (p := ⟨b14, 0, none⟩) hge14 (.int .i64 d0)).setCell (p := ⟨b14, 1, none⟩) hge14 (.int .i64 d1)
  rw [hw8.out] at hset
  rw [hw8.out]
  have hB8 := hB6.trans (hb8.mono hB6.size)
  have B9 := hide (hx9.bel hb8); have B12 := hide (hx12.bel hb8); have B14 := hide hset
  have Ry := hide (ry.bel hb8); have Rp := hide (rp.bel hb8)
  clear hw8 hset hx9 hx12 ry rp
  obtain ⟨x0, x1, _, _⟩ := B9.out.w2
  obtain ⟨y0, y1, _, _⟩ := B12.out.w2
  obtain ⟨z0, z1, _, _⟩ := B14.out.w2
  have u1 : ¬ (a0 < d0) := by omega
  have u2 : ¬ (a1 < d1) := by omega
  have u3 : ¬ (a1 < a0) := by omega
  have u4 : ¬ (a0 < 0) := by omega
  have u5 : ¬ (1000000 < a1) := by omega
  obtain ⟨v1, v2⟩ := hbr
  have v3 := P7 v1 v2
  have v4 : IntKind.i64.wrap (a0 - d0) = p.hi := by rw [v3]; exact wrapI (by omega)
  clear P7 v3
  by_cases hn0 : n = 0
  · have hys : ys = [] := List.eq_nil_of_length_eq_zero (by rw [← Hny.out]; exact hn0)
    have hs := src_none (ps := ps) (by rw [← hys]; exact HP.out)
    rw [← hys, HS.out] at hs
    injection hs with ha0 ha1
    omega
  have hnp : 0 < n := by omega
  have hn1 : ((n : Int) == 0) = false := by simp; omega
  have hn2 : ¬ (n : Int) = 0 := by omega
  have hn30 : n * 24 ≤ 140737488355328 := by have := (yearsOk_parts HP.out).1; have := Hny.out; omega
  clear hn0
  have L17 := hide (lit0 (cells := Yr.cells) w8 88 3 w8.heap.size (fun _ => rfl) (Nat.le_refl _))
  have hb17 := hide (below_new w8 (.cells #[] 88))
  have R17 := hide ((Ry.out.below hb17.out).more hb17.out.size)
  go_upto_region 16 with (first | (at_builtin; (refine wpList_freshB el_yr rfl (.tmp 124) (.tmp 125) rfl rfl L17.out Hny.out.symm rfl R17.out (by decide) hn30 hb17.out.size ?_; intro va wa oa hba hata; have OA := hide oa; have HBA := hide (hb17.out.trans (hba.mono hb17.out.size)); have HTA := hide hata; clear oa hba hata; have L18 := hide (lit0 (cells := Yr.cells) wa 88 3 wa.heap.size (fun _ => rfl) (Nat.le_refl _)); have hb18 := hide (below_new wa (.cells #[] 88)); have R18 := hide ((Ry.out.below (HBA.out.trans (hb18.out.mono HBA.out.size))).more (HBA.out.trans (hb18.out.mono HBA.out.size)).size))) | (at_builtin; (refine wpList_freshB el_yr rfl (.tmp 127) (.tmp 128) rfl rfl L18.out Hny.out.symm rfl R18.out (by decide) hn30 hb18.out.size ?_; intro vb wb ob hbb hatb; have OB := hide ob; have HBB := hide (hb18.out.trans (hbb.mono hb18.out.size)); have HTB := hide hatb; clear ob hbb hatb)))
  have HB16 := hide (HBA.out.trans (HBB.out.mono HBA.out.size))
  have OA2 := hide (OA.out.bel HBB.out)
  obtain ⟨Aa, ca, rfl, ra⟩ := OA2.out.rdn n Hny.out.symm
  obtain ⟨ga, rfl⟩ := own_at OA2.out hnp
  obtain ⟨Ab, cb, rfl, rb⟩ := OB.out.rdn n Hny.out.symm
  obtain ⟨gb, rfl⟩ := own_at OB.out hnp
  obtain ⟨j, hj⟩ : ∃ j, j = x % n := ⟨_, rfl⟩
  have hjn : j < n := by rw [hj]; exact Nat.mod_lt _ hnp
  have hje : (x : Int) % (n : Int) = (j : Int) := by rw [hj]; exact (Int.natCast_emod x n).symm
  rw [hje]
  have hji : (j : Int) < (n : Int) := by omega
  obtain ⟨b2, o2, lo, hi, wt, e2, _, hyj, k0, k1, k2⟩ := ra.yr (i := j) (by rw [← Hny.out]; exact hjn)
  injection e2 with e2; injection e2 with e2 e3; subst e2; subst e3
  have hyo := Yr.ok_bd ((yearsOk_parts HP.out).2.2.1 _ (List.mem_of_getElem? hyj))
  dsimp only at hyo
  have Hyj := hide hyj; have Hj := hide hj; have Hyo := hide hyo
  clear hyj hj hje ra rb
  simp only [Nat.zero_add] at k0 k1 k2
  go_upto_region 17 with fail
  obtain ⟨b19, w19, e19, ew19, hx19, hb19, _⟩ := mk_bx wb #[.int .i64 lo, .int .i64 hi] 24
  rw [ew19.out, e19.out]
  have HB19 := hide (HB16.out.trans (hb19.mono HB16.out.size))
  have OA3 := hide (OA2.out.bel hb19); have OB3 := hide (OB.out.bel hb19); have X19 := hide hx19
  have hg19 : ga < b19 := by
    have h : ga < wb.heap.size := (OA2.out.blockG rfl).2
    have := e19.out; omega
  have hn19 : b19 ≠ gb := by
    have h : gb < wb.heap.size := (OB.out.blockG rfl).2
    have := e19.out; omega
  clear k0 k1 k2 ew19 e19 hb19
  have hyo := Hyo.out
  have m1 : IntKind.i64.wrap (10000 - hi) = 10000 - hi := wrapI (by omega)
  have m2 : IntKind.i64.wrap (10000 - hi + 1) = 10000 - hi + 1 := wrapI (by omega)
  have m3 : ¬ (10000 - hi + 1 = 0) := by omega
  have m4 : IntKind.i64.wrap (e : Int) = (e : Int) := wrapI (by omega)
  obtain ⟨r0, r1, _, _⟩ := X19.out.w2
  go_upto_region 18 with fail
  have hr0 := Int.emod_nonneg (e : Int) m3
  have hr1 := Int.emod_lt_of_pos (e : Int) (show 0 < 10000 - hi + 1 by omega)
  obtain ⟨r, hr⟩ : ∃ r, r = (e : Int) % (10000 - hi + 1) := ⟨_, rfl⟩
  rw [← hr] at hr0 hr1
  rw [← hr]
  have m5 : IntKind.i64.wrap (lo + r) = lo + r := wrapI (by omega)
  have m6 : IntKind.i64.wrap (hi + r) = hi + r := wrapI (by omega)
  clear hr hyo
  go_wp2_with fail
  refine (gspan_any _ _ _).mono ?_
  rintro ed w20 ⟨rfl, hb20⟩
  have HB20 := hide (HB19.out.trans (hb20.mono HB19.out.size))
  have OA5 := OA3.out.bel hb20
  have OB5 := OB3.out.bel hb20
  have hab : ga ≠ gb := by
    have h1 : ga < wa.heap.size := (OA.out.blockG rfl).2
    have h2 : wa.heap.size ≤ gb := (OB.out.blockG rfl).1
    omega
  have hga : w8.heap.size ≤ ga := (OA.out.blockG rfl).1
  obtain ⟨P0, ⟨_, P1⟩, P2'⟩ := OA5.put_ Yr.len (i := j) (j := 0) (x := ⟨⟨lo, hi⟩, wt⟩) (x' := ⟨⟨lo + r, hi⟩, wt⟩) (u := .int .i64 (lo + r)) Hyj.out (by omega) rfl Hny.out
  obtain ⟨P3, ⟨_, P4⟩, P5'⟩ := P0.put_ Yr.len (i := j) (j := 1) (x := ⟨⟨lo + r, hi⟩, wt⟩) (x' := ⟨⟨lo + r, hi + r⟩, wt⟩) (u := .int .i64 (hi + r)) (by rw [List.getElem?_set_self (by rw [← Hny.out]; exact hjn)]) (by omega) rfl (by rw [List.length_set]; exact Hny.out)
  rw [List.set_set] at P3
  rw [Nat.add_zero] at P1 P2' P3 P4 P5'
  have OA6 := hide P3
  clear OA5 P0 P3
  go_upto_region 19 with fail
  obtain ⟨w21, hw21⟩ : ∃ w21, Hid ((w20.setCell ⟨ga, j * 3, none⟩ (.int .i64 (lo + r))).setCell ⟨ga, j * 3 + 1, none⟩ (.int .i64 (hi + r)) = w21) := ⟨_, hide rfl⟩
  have HB21 : Hid (Below w8.heap.size w8 w21) := hide (by rw [← hw21.out]; exact (HB20.out.setCell (p := ⟨ga, j * 3, none⟩) hga _).setCell (p := ⟨ga, j * 3 + 1, none⟩) hga _)
  have OA7 := OA6.out
  have OBc := (OB5.setCell (p := ⟨ga, j * 3, none⟩) (fun h => hab.symm (Option.some.inj h)) (.int .i64 (lo + r))).setCell (p := ⟨ga, j * 3 + 1, none⟩) (fun h => hab.symm (Option.some.inj h)) (.int .i64 (hi + r))
  have X21 := hide (((X19.out.bel hb20).other (q := ⟨ga, j * 3, none⟩) (.int .i64 (lo + r)) (by show ga ≠ b19; omega)).other (q := ⟨ga, j * 3 + 1, none⟩) (.int .i64 (hi + r)) (by show ga ≠ b19; omega))
  rw [hw21.out] at OA7 OBc X21
  rw [hw21.out]
  have OA8 := hide OA7
  clear OA7 OA6 OB5 hb20 P1 P2' P4 P5' hw21
  have hyo := Hyo.out
  have m7 : IntKind.i64.wrap (hi - lo) = hi - lo := wrapI (by omega)
  have m8 : IntKind.i64.wrap (hi - lo + 1) = hi - lo + 1 := wrapI (by omega)
  have m9 : ¬ (hi - lo + 1 = 0) := by omega
  obtain ⟨q, hq⟩ : ∃ q, q = (e : Int) % (hi - lo + 1) := ⟨_, rfl⟩
  have m10 : Int.tmod (e : Int) (hi - lo + 1) = q := by rw [Int.tmod_eq_emod_of_nonneg (by omega), hq]
  have hq2 : 0 ≤ q ∧ q < hi - lo + 1 := by rw [hq]; exact ⟨Int.emod_nonneg _ (by omega), Int.emod_lt_of_pos _ (by omega)⟩
  have m11 : IntKind.i64.wrap (lo + q) = lo + q := wrapI (by omega)
  clear hq hyo
  refine wp_region_held_drew (S := (fun W => Kept (fun b => b ≠ gb) w21 W)) (by kernel_rfl) (by (try dsimp only); exact Kept.all _ (Below.refl _ _).drew) (fun hHeld => ?_)
  have hdr : Below w21.heap.size w21 (World.drew w21) := (Below.refl _ _).drew
  generalize World.drew w21 = Wd19 at hHeld hdr ⊢
  have OBc := OBc.bel hdr
  have hbc := Below.refl Wd19.heap.size Wd19
  refine wpAnyH_take (i := 0) (oi := ⟨_, _, _, _, _, _⟩) (v := ?_) rfl (by kernel_rfl) (by kernel_rfl) (by kernel_rfl) (fun _ _ _ h => h) (Or.inl ⟨by rfl, ?_⟩) hHeld ?_
  rotate_left
  · (intro w hSw; (try dsimp only at hSw); go_simp; try (with_reducible rfl))
  try simp only [Act.put, List.setIfInBounds_toArray, List.set_cons_zero, List.set_cons_succ]
  refine wpAnyH_take (i := 1) (oi := ⟨_, _, _, _, _, _⟩) (v := ?_) rfl (by kernel_rfl) (by kernel_rfl) (by kernel_rfl) (fun _ _ _ h => h) (Or.inl ⟨by rfl, ?_⟩) hHeld ?_
  rotate_left
  · (intro w hSw; (try dsimp only at hSw); go_simp; try (with_reducible rfl))
  try simp only [Act.put, List.setIfInBounds_toArray, List.set_cons_zero, List.set_cons_succ]
  refine wpAnyH_take (i := 2) (oi := ⟨_, _, _, _, _, _⟩) (v := ?_) rfl (by kernel_rfl) (by kernel_rfl) (by kernel_rfl) (fun _ _ _ h => h) (Or.inl ⟨by rfl, ?_⟩) hHeld ?_
  rotate_left
  · (intro w hSw; (try dsimp only at hSw); go_simp; try (with_reducible rfl))
  try simp only [Act.put, List.setIfInBounds_toArray, List.set_cons_zero, List.set_cons_succ]
  refine wpAnyH_take (i := 3) (oi := ⟨_, _, _, _, _, _⟩) (v := ?_) rfl (by kernel_rfl) (by kernel_rfl) (by kernel_rfl) (fun _ _ _ h => h) (Or.inl ⟨by rfl, ?_⟩) hHeld ?_
  rotate_left
  · (intro w hSw; (try dsimp only at hSw); go_simp; try (with_reducible rfl))
  try simp only [Act.put, List.setIfInBounds_toArray, List.set_cons_zero, List.set_cons_succ]
  refine wpAnyH_take (i := 4) (oi := ⟨_, _, _, _, _, _⟩) (v := ?_) rfl (by kernel_rfl) (by kernel_rfl) (by kernel_rfl) (fun _ _ _ h => h) (Or.inl ⟨by rfl, ?_⟩) hHeld ?_
  rotate_left
  · (intro w hSw; (try dsimp only at hSw); go_simp; try (with_reducible rfl))
  try simp only [Act.put, List.setIfInBounds_toArray, List.set_cons_zero, List.set_cons_succ]
  refine wpAnyH_take (i := 6) (oi := ⟨_, _, _, _, _, _⟩) (v := ?_) rfl (by kernel_rfl) (by kernel_rfl) (by kernel_rfl) (fun _ _ _ h => h) (Or.inl ⟨by rfl, ?_⟩) hHeld ?_
  rotate_left
  · (intro w hSw; (try dsimp only at hSw); go_simp; try (with_reducible rfl))
  try simp only [Act.put, List.setIfInBounds_toArray, List.set_cons_zero, List.set_cons_succ]
  refine wpAnyH_take (i := 7) (oi := ⟨_, _, _, _, _, _⟩) (v := ?_) rfl (by kernel_rfl) (by kernel_rfl) (by kernel_rfl) (fun _ _ _ h => h) (Or.inl ⟨by rfl, ?_⟩) hHeld ?_
  rotate_left
  · (intro w hSw; (try dsimp only at hSw); go_simp; try (with_reducible rfl))
  try simp only [Act.put, List.setIfInBounds_toArray, List.set_cons_zero, List.set_cons_succ]
  refine wpAnyH_take (i := 8) (oi := ⟨_, _, _, _, _, _⟩) (v := ?_) rfl (by kernel_rfl) (by kernel_rfl) (by kernel_rfl) (fun _ _ _ h => h) (Or.inl ⟨by rfl, ?_⟩) hHeld ?_
  rotate_left
  · (intro w hSw; (try dsimp only at hSw); go_simp; try (with_reducible rfl))
  try simp only [Act.put, List.setIfInBounds_toArray, List.set_cons_zero, List.set_cons_succ]
  refine wpAnyH_take (i := 9) (oi := ⟨_, _, _, _, _, _⟩) (v := ?_) rfl (by kernel_rfl) (by kernel_rfl) (by kernel_rfl) (fun _ _ _ h => h) (Or.inl ⟨by rfl, ?_⟩) hHeld ?_
  rotate_left
  · (intro w hSw; (try dsimp only at hSw); obtain ⟨r0, r1, _, _⟩ := (X21.out.kept hSw hn19).w2; go_simp; try (with_reducible rfl))
  try simp only [Act.put, List.setIfInBounds_toArray, List.set_cons_zero, List.set_cons_succ]
  refine wpAnyH_take (i := 10) (oi := ⟨_, _, _, _, _, _⟩) (v := ?_) rfl (by kernel_rfl) (by kernel_rfl) (by kernel_rfl) (fun _ _ _ h => h) (Or.inl ⟨by rfl, ?_⟩) hHeld ?_
  rotate_left
  · (intro w hSw; (try dsimp only at hSw); go_simp; try (with_reducible rfl))
  try simp only [Act.put, List.setIfInBounds_toArray, List.set_cons_zero, List.set_cons_succ]
  refine wpAnyH_take (i := 11) (oi := ⟨_, _, _, _, _, _⟩) (v := ?_) rfl (by kernel_rfl) (by kernel_rfl) (by kernel_rfl) (fun _ _ _ h => h) (Or.inl ⟨by rfl, ?_⟩) hHeld ?_
  rotate_left
  · (intro w hSw; (try dsimp only at hSw); obtain ⟨r0, r1, _, _⟩ := (X21.out.kept hSw hn19).w2; go_simp; try (with_reducible rfl))
  try simp only [Act.put, List.setIfInBounds_toArray, List.set_cons_zero, List.set_cons_succ]
  refine wpAnyH_take (i := 12) (oi := ⟨_, _, _, _, _, _⟩) (v := ?_) rfl (by kernel_rfl) (by kernel_rfl) (by kernel_rfl) (fun _ _ _ h => h) (Or.inl ⟨by rfl, ?_⟩) hHeld ?_
  rotate_left
  · (intro w hSw; (try dsimp only at hSw); go_simp; try (with_reducible rfl))
  try simp only [Act.put, List.setIfInBounds_toArray, List.set_cons_zero, List.set_cons_succ]
  refine wpAnyH_take (i := 13) (oi := ⟨_, _, _, _, _, _⟩) (v := ?_) rfl (by kernel_rfl) (by kernel_rfl) (by kernel_rfl) (fun _ _ _ h => h) (Or.inl ⟨by rfl, ?_⟩) hHeld ?_
  rotate_left
  · (intro w hSw; (try dsimp only at hSw); go_simp; try (with_reducible rfl))
  try simp only [Act.put, List.setIfInBounds_toArray, List.set_cons_zero, List.set_cons_succ]
  refine wpAnyH_take (i := 14) (oi := ⟨_, _, _, _, _, _⟩) (v := ?_) rfl (by kernel_rfl) (by kernel_rfl) (by kernel_rfl) (fun _ _ _ h => h) (Or.inl ⟨by rfl, ?_⟩) hHeld ?_
  rotate_left
  · (intro w hSw; (try dsimp only at hSw); go_simp; try (with_reducible rfl))
  try simp only [Act.put, List.setIfInBounds_toArray, List.set_cons_zero, List.set_cons_succ]
  refine wpAnyH_ready (rs := [5]) (by kernel_rfl) (by simp) ?_
  refine AllReadyH.cons (o := ⟨_, _, _, _, _, _⟩) rfl (fun K hK => ?_) AllReadyH.nil
  obtain ⟨z1, z2⟩ := own_yr_c OBc Hny.out Hyj.out
  go_simp
  clear z1 z2
  have hHeldN := hHeld
  refine hK.out _ _ ?_ (fun hHeld2 => ?_)
  · exact hHeldN
  clear hK K hHeld hHeldN; have hHeld := hHeld2; clear hHeld2
  try simp only [Act.put, List.setIfInBounds_toArray, List.set_cons_zero, List.set_cons_succ]
  refine wpAnyH_take (i := 15) (oi := ⟨_, _, _, _, _, _⟩) (v := ?_) rfl (by kernel_rfl) (by kernel_rfl) (by kernel_rfl) (fun _ _ _ h => h) (Or.inl ⟨by rfl, ?_⟩) hHeld ?_
  rotate_left
  · (intro w hSw; (try dsimp only at hSw); go_simp; try (with_reducible rfl))
  try simp only [Act.put, List.setIfInBounds_toArray, List.set_cons_zero, List.set_cons_succ]
  refine wpAnyH_take (i := 16) (oi := ⟨_, _, _, _, _, _⟩) (v := ?_) rfl (by kernel_rfl) (by kernel_rfl) (by kernel_rfl) (fun _ _ _ h => h) (Or.inl ⟨by rfl, ?_⟩) hHeld ?_
  rotate_left
  · (intro w hSw; (try dsimp only at hSw); go_simp; try (with_reducible rfl))
  try simp only [Act.put, List.setIfInBounds_toArray, List.set_cons_zero, List.set_cons_succ]
  refine wpAnyH_take (i := 17) (oi := ⟨_, _, _, _, _, _⟩) (v := ?_) rfl (by kernel_rfl) (by kernel_rfl) (by kernel_rfl) (fun _ _ _ h => h) (Or.inl ⟨by rfl, ?_⟩) hHeld ?_
  rotate_left
  · (intro w hSw; (try dsimp only at hSw); go_simp; try (with_reducible rfl))
  try simp only [Act.put, List.setIfInBounds_toArray, List.set_cons_zero, List.set_cons_succ]
  refine wpAnyH_take (i := 18) (oi := ⟨_, _, _, _, _, _⟩) (v := ?_) rfl (by kernel_rfl) (by kernel_rfl) (by kernel_rfl) (fun _ _ _ h => h) (Or.inl ⟨by rfl, ?_⟩) hHeld ?_
  rotate_left
  · (intro w hSw; (try dsimp only at hSw); go_simp; try (with_reducible rfl))
  try simp only [Act.put, List.setIfInBounds_toArray, List.set_cons_zero, List.set_cons_succ]
  refine wpAnyH_ready (rs := [19]) (by kernel_rfl) (by simp) ?_
  refine AllReadyH.cons (o := ⟨_, _, _, _, _, _⟩) rfl (fun K hK => ?_) AllReadyH.nil
  obtain ⟨OB8, ⟨_, z1⟩, z2⟩ := OBc.put_ Yr.len (i := j) (j := 0) (x := ⟨⟨lo, hi⟩, wt⟩) (x' := ⟨⟨lo + q, hi⟩, wt⟩) (u := .int .i64 (lo + q)) Hyj.out (by omega) rfl Hny.out
  rw [Nat.add_zero] at z1 z2 OB8
  have OB9 := hide OB8; clear OB8
  have hHeldF := hHeld
  go_simp
  refine hK.out _ _ ?_ (fun _ => ?_)
  · (try dsimp only); exact hHeld.trans (Kept.setCell _ ⟨gb, j * 3, none⟩ _)
  clear hK K hHeld
  try simp only [Act.put, List.setIfInBounds_toArray, List.set_cons_zero, List.set_cons_succ]
  refine wpAnyH_done (by kernel_rfl) ?_ _
  obtain ⟨w22, hw22⟩ : ∃ w22, Hid (Wd19.setCell ⟨gb, j * 3, none⟩ (.int .i64 (lo + q)) = w22) := ⟨_, hide rfl⟩
  have hgb : w8.heap.size ≤ gb := by
    have h2 : wa.heap.size ≤ gb := (OB.out.blockG rfl).1
    have := HBA.out.size; omega
  have HB22 : Hid (Below w8.heap.size w8 w22) := hide (by rw [← hw22.out]; exact (HB21.out.trans (hdr.mono HB21.out.size)).setCell (p := ⟨gb, j * 3, none⟩) hgb _)
  have OAx := (OA8.out.bel hdr).setCell (p := ⟨gb, j * 3, none⟩) (fun h => hab (Option.some.inj h)) (.int .i64 (lo + q))
  have OBx := OB9.out
  rw [hw22.out] at OAx OBx
  rw [hw22.out]
  have hyo := Hyo.out
  obtain ⟨S1, S2, S3, _⟩ := rains_more (y' := ⟨⟨lo + r, hi + r⟩, wt⟩) HP.out Hyj.out rfl (by dsimp only; omega) (by dsimp only; omega) (by dsimp only; omega)
  obtain ⟨T1, T2, _, T4⟩ := rains_more (y' := ⟨⟨lo + q, hi⟩, wt⟩) HP.out Hyj.out rfl (by dsimp only; omega) (by dsimp only; omega) (by dsimp only; omega)
  replace S3 := S3 (by dsimp only; omega)
  replace T4 := T4 (by dsimp only; omega)
  obtain ⟨Aa, ca', ea, ra⟩ := OAx.rdn n (by rw [List.length_set]; exact Hny.out.symm)
  injection ea with ea eb ec; subst ea; subst ec
  obtain ⟨Ab, cb', ea, rb⟩ := OBx.rdn n (by rw [List.length_set]; exact Hny.out.symm)
  injection ea with ea eb ec; subst ea; subst ec
  rw [HS.out] at S2 S3 T2 T4
  dsimp only at S2 S3 T2 T4
  have hl1 : n = (ys.set j ⟨⟨lo + r, hi + r⟩, wt⟩).length := by rw [List.length_set]; exact Hny.out
  have hl2 : n = (ys.set j ⟨⟨lo + q, hi⟩, wt⟩).length := by rw [List.length_set]; exact Hny.out
  generalize ys.set j ⟨⟨lo + r, hi + r⟩, wt⟩ = ya at *
  generalize ys.set j ⟨⟨lo + q, hi⟩, wt⟩ = yb at *
  have Va : srcV ya ps = srcS ya ps := by simp [srcV, S1]
  have Ea : srcErr ya ps = 0 := by simp [srcErr, S1]
  have Vb : srcV yb ps = srcS yb ps := by simp [srcV, T1]
  have Eb : srcErr yb ps = 0 := by simp [srcErr, T1]
  obtain ⟨f0, f1, h1⟩ : ∃ a b, srcS ya ps = ⟨a, b⟩ := ⟨_, _, rfl⟩
  obtain ⟨g0, g1, h2⟩ : ∃ a b, srcS yb ps = ⟨a, b⟩ := ⟨_, _, rfl⟩
  rw [h1] at S2 S3 Va
  rw [h2] at T2 T4 Vb
  dsimp only at S2 S3 T2 T4
  have Hl1 := hide hl1; have Hl2 := hide hl2; have HVa := hide Va; have HEa := hide Ea; have HVb := hide Vb; have HEb := hide Eb; have Ra := hide ra; have Rb := hide rb
  clear hyo hl1 hl2 Va Ea Vb Eb ra rb OAx OBx S1 T1 h1 h2 OB9 OA8 hw22
  go_wp2_with fail
  refine (source_any _ A1 ya ps n _ np c1 w22 Hl1.out hny2 Ra.out Hnp.out (by omega) (Rp.out.bel HB22.out)).mono ?_
  rintro ed w23 ⟨rfl, hb23⟩
  rw [HVa.out, HEa.out]
  obtain ⟨b21, w24, e24, ew24, hx21, hb24, _⟩ := mk_bx w23 #[.int .i64 f0, .int .i64 f1] 24
  go_wp2_with fail
  rw [ew24.out, e24.out]
  have hb224 := hb23.trans (hb24.mono hb23.size)
  have HB24 := hide (HB22.out.trans (hb224.mono HB22.out.size))
  refine (source_any _ A1 yb ps n _ np c1 w24 Hl2.out hny2 (Rb.out.bel hb224) Hnp.out (by omega) (Rp.out.bel HB24.out)).mono ?_
  rintro ed w25 ⟨rfl, hb25⟩
  rw [HVb.out, HEb.out]
  obtain ⟨b23, w26, e26, ew26, hx23, hb26, _⟩ := mk_bx w25 #[.int .i64 g0, .int .i64 g1] 24
  have hb256 := hb25.trans (hb26.mono hb25.size)
  have HB26 := hide (HB24.out.trans (hb256.mono HB24.out.size))
  obtain ⟨s0, s1, _, _⟩ := ((hx21.bel hb25).bel hb26).w2
  obtain ⟨s2, s3, _, _⟩ := hx23.w2
  obtain ⟨s4, s5, _, _⟩ := (B12.out.bel HB26.out).w2
  rw [← ew26.out] at s0 s1 s2 s3 s4 s5
  rw [← e26.out] at s2 s3
  go_wp2_with fail
  go_ret
  exact ⟨by first | rfl | simp, by rw [ew26.out]; exact hB8.trans (HB26.out.mono hB8.size)⟩
end Go.Proofs.Ytkmocikcohhdoaa
