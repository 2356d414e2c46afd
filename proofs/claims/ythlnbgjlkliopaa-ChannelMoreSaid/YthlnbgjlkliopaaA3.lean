/- Channel, outright: alive() is true: the chapter's examples. -/
import Derived.Test.YthlnbgjlkliopaaA0
set_option linter.unusedVariables false
set_option linter.unusedSimpArgs false
namespace Go.Proofs.Ythlnbgjlkliopaa
open Go.RowKit Go.Shelf
attribute [local go_sem ↓] Go.wp_at_zero Go.wp_at_succ
theorem rows3 {w : World} {b c d : Nat} {x y z : List Int} {n m k n' m' k' : Nat} (h1 : Rd w w.heap.size icell (some ⟨b, 0, none⟩) x) (h2 : Rd w w.heap.size icell (some ⟨c, 0, none⟩) y) (h3 : Rd w w.heap.size icell (some ⟨d, 0, none⟩) z) (e1 : n = x.length := by rfl) (e2 : m = y.length := by rfl) (e3 : k = z.length := by rfl) :
    Rows w w.heap.size icell [⟨some ⟨b, 0, none⟩, n, n'⟩, ⟨some ⟨c, 0, none⟩, m, m'⟩, ⟨some ⟨d, 0, none⟩, k, k'⟩] [x, y, z] :=
  Rows.lit rfl fun i s xs hs hx => by
    match i, hs, hx with
    | 0, hs, hx => simp at hs hx; subst hs hx; exact ⟨e1, h1⟩
    | 1, hs, hx => simp at hs hx; subst hs hx; exact ⟨e2, h2⟩
    | 2, hs, hx => simp at hs hx; subst hs hx; exact ⟨e3, h3⟩
    | n + 3, hs, hx => simp at hs
set_option maxHeartbeats 40000000 in
set_option maxRecDepth 100000 in
theorem alive_any (w : World) : Calls Try.prog 4 #[] w fun e w' => e = .returned (.bool true) ∧ Below w.heap.size w w' := by
  go_enter Try.func4, Try.ntmps4
  go_wp2_with fail
  refine (span_any _ _ _).mono ?_
  rintro e w1 ⟨rfl, h1⟩
  obtain ⟨b1, w2, eb, ew, x1, _, h2⟩ := mk_box w1 #[.int .i64 10, .int .i64 12] 27
  go_wp2_with fail
  rw [ew.out, eb.out]
  refine (garden_any _).mono ?_
  rintro e w3 ⟨Ac3, Af3, rfl, n3, h3⟩
  go_wp2_with fail
  refine (path_fn _ _ _ _ _ _ _ _ _ _ _ _ n3).mono ?_
  rintro e w4 ⟨v, rfl, ho, h4⟩
  simp only [gar_path] at ho ⊢
  obtain ⟨Ap, cp, rfl, rp⟩ := ho.rdn 2 rfl
  clear ho
  go_wp2_with fail
  refine (garden_any _).mono ?_
  rintro e w5 ⟨Ac5, Af5, rfl, n5, h5⟩
  go_wp2_with fail
  refine (moves_fn _ _ _ _ _ _ _ _ _ _ _ _ _ n5).mono ?_
  rintro e w6 ⟨v, u, rfl, ho, ho2, h6⟩
  simp only [gar_moves] at ho ho2 ⊢
  obtain ⟨As, cs, rfl, rs⟩ := ho.rdn 1 rfl
  obtain ⟨Ao, co, rfl, ro⟩ := ho2.rdn 1 rfl
  clear ho ho2
  go_wp2_with fail
  refine (garden_any _).mono ?_
  rintro e w7 ⟨Ac7, Af7, rfl, n7, h7⟩
  go_wp2_with fail
  refine (day_any _).mono ?_
  rintro e w7' ⟨Au7, rfl, r7, h7'⟩
  go_wp2_with fail
  refine (dries_fn _ _ _ _ _ _ _ _ _ _ _ _ _ _ _ (n7.bel h7') r7 rfl (by decide)).mono ?_
  rintro e w8 ⟨v, rfl, ss, ho, rr, h8⟩
  simp only [gar_dries] at ho rr ⊢
  obtain ⟨Al, cl, rfl, rl⟩ := ho.rdn 3 rr.len
  clear ho n7 r7 n3 n5
  replace rs := ((rs.bel h7).bel h7').bel h8
  replace ro := ((ro.bel h7).bel h7').bel h8
  replace rp := ((((rp.bel h5).bel h6).bel h7).bel h7').bel h8
  replace x1 := ((((((x1.bel h3).bel h4).bel h5).bel h6).bel h7).bel h7').bel h8
  have c2 := h1.trans (h2.mono h1.size)
  have c3 := c2.trans (h3.mono c2.size)
  have c4 := c3.trans (h4.mono c3.size)
  have c5 := c4.trans (h5.mono c4.size)
  have c6 := c5.trans (h6.mono c5.size)
  have c7 := c6.trans (h7.mono c6.size)
  have c8 := c7.trans (h7'.mono c7.size)
  have c9 := c8.trans (h8.mono c8.size)
  clear h1 h2 h3 h4 h5 h6 h7 h7' h8 c2 c3 c4 c5 c6 c7 c8
  have Hx := hide x1
  go_wp2_with fail
  refine wp_region_held_drew (S := (fun W => Below w8.heap.size w8 W)) (by kernel_rfl) (by (try dsimp only); exact (Below.refl _ _).drew) (fun hHeld => ?_)
  generalize World.drew w8 = Wd5 at hHeld ⊢
  have rp := rp.bel hHeld
  have rs := rs.bel hHeld
  have ro := ro.bel hHeld
  have rl := rl.bel hHeld
  have rr := rr.bel hHeld
  have hbc := Below.refl Wd5.heap.size Wd5
  refine tkH 1 ?_ rfl (Or.inl ⟨by rfl, ?_⟩) hHeld ?_
  rotate_left
  · (intro w hSw; (try dsimp only at hSw); obtain ⟨q0, q1⟩ := (Hx.out.below hSw).c2; go_simp; try (with_reducible rfl))
  try simp only [Act.put, tl1, tl2, tl3]
  refine wpAnyH_ready (rs := [0]) (by kernel_rfl) (by simp) ?_
  refine AllReadyH.cons (o := ⟨_, _, _, _, _, _⟩) rfl (fun K hK => ?_) AllReadyH.nil
  go_simp
  refine (garden_any _).mono ?_
  rintro e V36 ⟨Ac36, Af36, rfl, n36, hb⟩
  go_wp2_with fail
  have hHeldN := hHeld.trans (hb.mono hHeld.size)
  have rp := rp.bel hb
  have rs := rs.bel hb
  have ro := ro.bel hb
  have rl := rl.bel hb
  have rr := rr.bel hb
  have hbc := hbc.trans (hb.mono hbc.size)
  refine hK.out _ _ ?_ (fun hHeld2 => ?_)
  · exact hHeldN
  clear hK K hHeld hHeldN hb; have hHeld := hHeld2; clear hHeld2
  try simp only [Act.put, tl1, tl2, tl3]
  refine wpAnyH_ready (rs := [2]) (by kernel_rfl) (by simp) ?_
  refine AllReadyH.cons (o := ⟨_, _, _, _, _, _⟩) rfl (fun K hK => ?_) AllReadyH.nil
  go_simp
  refine (day_any _).mono ?_
  rintro e V38 ⟨Au38, rfl, r38, hb⟩
  go_wp2_with fail
  have hHeldN := hHeld.trans (hb.mono hHeld.size)
  have rp := rp.bel hb
  have rs := rs.bel hb
  have ro := ro.bel hb
  have rl := rl.bel hb
  have rr := rr.bel hb
  have n36 := n36.bel hb
  have hbc := hbc.trans (hb.mono hbc.size)
  refine hK.out _ _ ?_ (fun hHeld2 => ?_)
  · exact hHeldN
  clear hK K hHeld hHeldN hb; have hHeld := hHeld2; clear hHeld2
  try simp only [Act.put, tl1, tl2, tl3]
  refine wpAnyH_ready (rs := [3]) (by kernel_rfl) (by simp) ?_
  refine AllReadyH.cons (o := ⟨_, _, _, _, _, _⟩) rfl (fun K hK => ?_) AllReadyH.nil
  go_simp
  refine (waters_fn _ _ _ _ _ _ _ _ _ _ _ _ _ _ _ _ _ n36 r38 rfl (by decide)).mono ?_
  rintro e V39 ⟨v1, v2, rfl, o1, o2, hb⟩
  simp only [gar_waters] at o1 o2 ⊢
  obtain ⟨A39, c39, rfl, r39⟩ := o1.rdn 2 rfl
  obtain ⟨B39, d39, rfl, s39⟩ := o2.rdn 3 rfl
  clear o1 o2
  go_wp2_with fail
  have hHeldN := hHeld.trans (hb.mono hHeld.size)
  have rp := rp.bel hb
  have rs := rs.bel hb
  have ro := ro.bel hb
  have rl := rl.bel hb
  have rr := rr.bel hb
  have n36 := n36.bel hb
  have r38 := r38.bel hb
  have hbc := hbc.trans (hb.mono hbc.size)
  refine hK.out _ _ ?_ (fun hHeld2 => ?_)
  · exact hHeldN
  clear hK K hHeld hHeldN hb; have hHeld := hHeld2; clear hHeld2
  try simp only [Act.put, tl1, tl2, tl3]
  iterate 7
    refine tkHl [4, 5, 6, 7, 8, 9, 10] ?_ rfl rfl (Or.inl ⟨by rfl, ?_⟩) hHeld ?_
    rotate_left
    · (intro w _; go_simp; try (with_reducible rfl))
    try simp only [Act.put, tl1, tl2, tl3]
  refine wpAnyH_done (by kernel_rfl) ?_ _
  have hB := c9.trans (hHeld.mono c9.size)
  replace x1 := x1.bel hHeld
  clear hbc hHeld c9 Hx
  have Hx := hide x1
  go_wp2_with fail
  refine wp_region_held_drew (S := (fun W => Below V39.heap.size V39 W)) (by kernel_rfl) (by (try dsimp only); exact (Below.refl _ _).drew) (fun hHeld => ?_)
  generalize World.drew V39 = Wd6 at hHeld ⊢
  have rp := rp.bel hHeld
  have rs := rs.bel hHeld
  have ro := ro.bel hHeld
  have rl := rl.bel hHeld
  have rr := rr.bel hHeld
  have r39 := r39.bel hHeld
  have s39 := s39.bel hHeld
  have hbc := Below.refl Wd6.heap.size Wd6
  refine tkH 1 ?_ rfl (Or.inl ⟨by rfl, ?_⟩) hHeld ?_
  rotate_left
  · (intro w hSw; (try dsimp only at hSw); obtain ⟨q0, q1⟩ := (Hx.out.below hSw).c2; go_simp; try (with_reducible rfl))
  try simp only [Act.put, tl1, tl2, tl3]
  refine wpAnyH_ready (rs := [0]) (by kernel_rfl) (by simp) ?_
  refine AllReadyH.cons (o := ⟨_, _, _, _, _, _⟩) rfl (fun K hK => ?_) AllReadyH.nil
  go_simp
  refine (garden_any _).mono ?_
  rintro e V44 ⟨Ac44, Af44, rfl, n44, hb⟩
  go_wp2_with fail
  have hHeldN := hHeld.trans (hb.mono hHeld.size)
  have rp := rp.bel hb
  have rs := rs.bel hb
  have ro := ro.bel hb
  have rl := rl.bel hb
  have rr := rr.bel hb
  have r39 := r39.bel hb
  have s39 := s39.bel hb
  have hbc := hbc.trans (hb.mono hbc.size)
  refine hK.out _ _ ?_ (fun hHeld2 => ?_)
  · exact hHeldN
  clear hK K hHeld hHeldN hb; have hHeld := hHeld2; clear hHeld2
  try simp only [Act.put, tl1, tl2, tl3]
  refine wpAnyH_ready (rs := [2]) (by kernel_rfl) (by simp) ?_
  refine AllReadyH.cons (o := ⟨_, _, _, _, _, _⟩) rfl (fun K hK => ?_) AllReadyH.nil
  go_simp
  refine (minutes_fn _ _ _ _ _ _ _ _ _ _ _ _ _ _ _ n44).mono ?_
  rintro e V46 ⟨r46, er46, rfl, hm46, hb⟩
  obtain ⟨rfl, rfl⟩ := gar_min1 hm46
  clear hm46
  go_wp2_with fail
  have hHeldN := hHeld.trans (hb.mono hHeld.size)
  have rp := rp.bel hb
  have rs := rs.bel hb
  have ro := ro.bel hb
  have rl := rl.bel hb
  have rr := rr.bel hb
  have r39 := r39.bel hb
  have s39 := s39.bel hb
  have n44 := n44.bel hb
  have hbc := hbc.trans (hb.mono hbc.size)
  refine hK.out _ _ ?_ (fun hHeld2 => ?_)
  · exact hHeldN
  clear hK K hHeld hHeldN hb; have hHeld := hHeld2; clear hHeld2
  try simp only [Act.put, tl1, tl2, tl3]
  iterate 5
    refine tkHl [3, 4, 5, 6, 7] ?_ rfl rfl (Or.inl ⟨by rfl, ?_⟩) hHeld ?_
    rotate_left
    · (intro w _; go_simp; try (with_reducible rfl))
    try simp only [Act.put, tl1, tl2, tl3]
  refine wpAnyH_done (by kernel_rfl) ?_ _
  have c9 := hB.trans (hHeld.mono hB.size)
  replace x1 := x1.bel hHeld
  clear hbc hHeld hB Hx
  have Hx := hide x1
  go_wp2_with fail
  refine wp_region_held_drew (S := (fun W => Below V46.heap.size V46 W)) (by kernel_rfl) (by (try dsimp only); exact (Below.refl _ _).drew) (fun hHeld => ?_)
  generalize World.drew V46 = Wd7 at hHeld ⊢
  have rp := rp.bel hHeld
  have rs := rs.bel hHeld
  have ro := ro.bel hHeld
  have rl := rl.bel hHeld
  have rr := rr.bel hHeld
  have r39 := r39.bel hHeld
  have s39 := s39.bel hHeld
  have hbc := Below.refl Wd7.heap.size Wd7
  refine tkH 1 ?_ rfl (Or.inl ⟨by rfl, ?_⟩) hHeld ?_
  rotate_left
  · (intro w hSw; (try dsimp only at hSw); obtain ⟨q0, q1⟩ := (Hx.out.below hSw).c2; go_simp; try (with_reducible rfl))
  try simp only [Act.put, tl1, tl2, tl3]
  refine cut4 (C := fun (Ac50 : Option Addr) (Af50 : Option Addr) (b52 : Nat) (b53 : Nat) (Wc7_1 : World) => (NetAt Wc7_1 Ac50 Af50 3 2 gcs gfs) ∧ (Rd Wc7_1 Wc7_1.heap.size icell (some ⟨b52, 0, none⟩) [0, 1, 0]) ∧ (Rd Wc7_1 Wc7_1.heap.size icell (some ⟨b53, 0, none⟩) [30, 60, 30]) ∧ Below Wd7.heap.size Wd7 Wc7_1 ∧ Below V46.heap.size V46 Wc7_1) (G := ?_) ?_ ?_
  rotate_left
  · intro hCut
    replace hbc := Below.refl Wd7.heap.size Wd7
    refine wpAnyH_ready (rs := [0, 2, 3]) (by kernel_rfl) (by simp) ?_
    refine AllReadyH.cons (o := ⟨_, _, _, _, _, _⟩) rfl (fun K hK => ?_) ?_
    ·
      go_simp
      refine (garden_any _).mono ?_
      rintro e V50 ⟨Ac50, Af50, rfl, n50, hb⟩
      go_wp2_with fail
      have hHeldN := hHeld.trans (hb.mono hHeld.size)
      have rp := rp.bel hb
      have rs := rs.bel hb
      have ro := ro.bel hb
      have rl := rl.bel hb
      have rr := rr.bel hb
      have r39 := r39.bel hb
      have s39 := s39.bel hb
      have hbc := hbc.trans (hb.mono hbc.size)
      refine hK.out _ _ ?_ (fun hHeld2 => ?_)
      · exact hHeldN
      clear hK K hHeldN hb; have hHeld := hHeld2; clear hHeld2
      try simp only [Act.put, tl1, tl2, tl3]
      refine wpAnyH_ready (rs := [2, 3]) (by kernel_rfl) (by simp) ?_
      refine AllReadyH.cons (o := ⟨_, _, _, _, _, _⟩) rfl (fun K hK => ?_) ?_
      ·
        go_simp
        obtain ⟨b52, V52, eb52, ev52, r52, hb⟩ := mk_row (cells := icell) V50 #[.int .i64 0, .int .i64 1, .int .i64 0] 3 [0, 1, 0] rfl
        rw [ev52.out, eb52.out]
        have hHeldN := hHeld.trans (hb.mono hHeld.size)
        have rp := rp.bel hb
        have rs := rs.bel hb
        have ro := ro.bel hb
        have rl := rl.bel hb
        have rr := rr.bel hb
        have r39 := r39.bel hb
        have s39 := s39.bel hb
        have n50 := n50.bel hb
        have hbc := hbc.trans (hb.mono hbc.size)
        refine hK.out _ _ ?_ (fun hHeld2 => ?_)
        · exact hHeldN
        clear hK K hHeldN hb; have hHeld := hHeld2; clear hHeld2
        try simp only [Act.put, tl1, tl2, tl3]
        refine wpAnyH_ready (rs := [3]) (by kernel_rfl) (by simp) ?_
        refine AllReadyH.cons (o := ⟨_, _, _, _, _, _⟩) rfl (fun K hK => ?_) AllReadyH.nil
        go_simp
        obtain ⟨b53, V53, eb53, ev53, r53, hb⟩ := mk_row (cells := icell) V52 #[.int .i64 30, .int .i64 60, .int .i64 30] 3 [30, 60, 30] rfl
        rw [ev53.out, eb53.out]
        have hHeldN := hHeld.trans (hb.mono hHeld.size)
        have rp := rp.bel hb
        have rs := rs.bel hb
        have ro := ro.bel hb
        have rl := rl.bel hb
        have rr := rr.bel hb
        have r39 := r39.bel hb
        have s39 := s39.bel hb
        have n50 := n50.bel hb
        have r52 := r52.bel hb
        have hbc := hbc.trans (hb.mono hbc.size)
        refine hK.out _ _ ?_ (fun hHeld2 => ?_)
        · exact hHeldN
        clear hK K hHeldN hb; have hHeld := hHeld2; clear hHeld2
        try simp only [Act.put, tl1, tl2, tl3]
        exact hCut Ac50 Af50 b52 b53 V53 ⟨n50, r52, r53, hbc, hHeld⟩
      refine AllReadyH.cons (o := ⟨_, _, _, _, _, _⟩) rfl (fun K hK => ?_) AllReadyH.nil
      go_simp
      obtain ⟨b53, V53, eb53, ev53, r53, hb⟩ := mk_row (cells := icell) V50 #[.int .i64 30, .int .i64 60, .int .i64 30] 3 [30, 60, 30] rfl
      rw [ev53.out, eb53.out]
      have hHeldN := hHeld.trans (hb.mono hHeld.size)
      have rp := rp.bel hb
      have rs := rs.bel hb
      have ro := ro.bel hb
      have rl := rl.bel hb
      have rr := rr.bel hb
      have r39 := r39.bel hb
      have s39 := s39.bel hb
      have n50 := n50.bel hb
      have hbc := hbc.trans (hb.mono hbc.size)
      refine hK.out _ _ ?_ (fun hHeld2 => ?_)
      · exact hHeldN
      clear hK K hHeldN hb; have hHeld := hHeld2; clear hHeld2
      try simp only [Act.put, tl1, tl2, tl3]
      refine wpAnyH_ready (rs := [2]) (by kernel_rfl) (by simp) ?_
      refine AllReadyH.cons (o := ⟨_, _, _, _, _, _⟩) rfl (fun K hK => ?_) AllReadyH.nil
      go_simp
      obtain ⟨b52, V52, eb52, ev52, r52, hb⟩ := mk_row (cells := icell) V53 #[.int .i64 0, .int .i64 1, .int .i64 0] 3 [0, 1, 0] rfl
      rw [ev52.out, eb52.out]
      have hHeldN := hHeld.trans (hb.mono hHeld.size)
      have rp := rp.bel hb
      have rs := rs.bel hb
      have ro := ro.bel hb
      have rl := rl.bel hb
      have rr := rr.bel hb
      have r39 := r39.bel hb
      have s39 := s39.bel hb
      have n50 := n50.bel hb
      have r53 := r53.bel hb
      have hbc := hbc.trans (hb.mono hbc.size)
      refine hK.out _ _ ?_ (fun hHeld2 => ?_)
      · exact hHeldN
      clear hK K hHeldN hb; have hHeld := hHeld2; clear hHeld2
      try simp only [Act.put, tl1, tl2, tl3]
      exact hCut Ac50 Af50 b52 b53 V52 ⟨n50, r52, r53, hbc, hHeld⟩
    refine AllReadyH.cons (o := ⟨_, _, _, _, _, _⟩) rfl (fun K hK => ?_) ?_
    ·
      go_simp
      obtain ⟨b52, V52, eb52, ev52, r52, hb⟩ := mk_row (cells := icell) Wd7 #[.int .i64 0, .int .i64 1, .int .i64 0] 3 [0, 1, 0] rfl
      rw [ev52.out, eb52.out]
      have hHeldN := hHeld.trans (hb.mono hHeld.size)
      have rp := rp.bel hb
      have rs := rs.bel hb
      have ro := ro.bel hb
      have rl := rl.bel hb
      have rr := rr.bel hb
      have r39 := r39.bel hb
      have s39 := s39.bel hb
      have hbc := hbc.trans (hb.mono hbc.size)
      refine hK.out _ _ ?_ (fun hHeld2 => ?_)
      · exact hHeldN
      clear hK K hHeldN hb; have hHeld := hHeld2; clear hHeld2
      try simp only [Act.put, tl1, tl2, tl3]
      refine wpAnyH_ready (rs := [0, 3]) (by kernel_rfl) (by simp) ?_
      refine AllReadyH.cons (o := ⟨_, _, _, _, _, _⟩) rfl (fun K hK => ?_) ?_
      ·
        go_simp
        refine (garden_any _).mono ?_
        rintro e V50 ⟨Ac50, Af50, rfl, n50, hb⟩
        go_wp2_with fail
        have hHeldN := hHeld.trans (hb.mono hHeld.size)
        have rp := rp.bel hb
        have rs := rs.bel hb
        have ro := ro.bel hb
        have rl := rl.bel hb
        have rr := rr.bel hb
        have r39 := r39.bel hb
        have s39 := s39.bel hb
        have r52 := r52.bel hb
        have hbc := hbc.trans (hb.mono hbc.size)
        refine hK.out _ _ ?_ (fun hHeld2 => ?_)
        · exact hHeldN
        clear hK K hHeldN hb; have hHeld := hHeld2; clear hHeld2
        try simp only [Act.put, tl1, tl2, tl3]
        refine wpAnyH_ready (rs := [3]) (by kernel_rfl) (by simp) ?_
        refine AllReadyH.cons (o := ⟨_, _, _, _, _, _⟩) rfl (fun K hK => ?_) AllReadyH.nil
        go_simp
        obtain ⟨b53, V53, eb53, ev53, r53, hb⟩ := mk_row (cells := icell) V50 #[.int .i64 30, .int .i64 60, .int .i64 30] 3 [30, 60, 30] rfl
        rw [ev53.out, eb53.out]
        have hHeldN := hHeld.trans (hb.mono hHeld.size)
        have rp := rp.bel hb
        have rs := rs.bel hb
        have ro := ro.bel hb
        have rl := rl.bel hb
        have rr := rr.bel hb
        have r39 := r39.bel hb
        have s39 := s39.bel hb
        have r52 := r52.bel hb
        have n50 := n50.bel hb
        have hbc := hbc.trans (hb.mono hbc.size)
        refine hK.out _ _ ?_ (fun hHeld2 => ?_)
        · exact hHeldN
        clear hK K hHeldN hb; have hHeld := hHeld2; clear hHeld2
        try simp only [Act.put, tl1, tl2, tl3]
        exact hCut Ac50 Af50 b52 b53 V53 ⟨n50, r52, r53, hbc, hHeld⟩
      refine AllReadyH.cons (o := ⟨_, _, _, _, _, _⟩) rfl (fun K hK => ?_) AllReadyH.nil
      go_simp
      obtain ⟨b53, V53, eb53, ev53, r53, hb⟩ := mk_row (cells := icell) V52 #[.int .i64 30, .int .i64 60, .int .i64 30] 3 [30, 60, 30] rfl
      rw [ev53.out, eb53.out]
      have hHeldN := hHeld.trans (hb.mono hHeld.size)
      have rp := rp.bel hb
      have rs := rs.bel hb
      have ro := ro.bel hb
      have rl := rl.bel hb
      have rr := rr.bel hb
      have r39 := r39.bel hb
      have s39 := s39.bel hb
      have r52 := r52.bel hb
      have hbc := hbc.trans (hb.mono hbc.size)
      refine hK.out _ _ ?_ (fun hHeld2 => ?_)
      · exact hHeldN
      clear hK K hHeldN hb; have hHeld := hHeld2; clear hHeld2
      try simp only [Act.put, tl1, tl2, tl3]
      refine wpAnyH_ready (rs := [0]) (by kernel_rfl) (by simp) ?_
      refine AllReadyH.cons (o := ⟨_, _, _, _, _, _⟩) rfl (fun K hK => ?_) AllReadyH.nil
      go_simp
      refine (garden_any _).mono ?_
      rintro e V50 ⟨Ac50, Af50, rfl, n50, hb⟩
      go_wp2_with fail
      have hHeldN := hHeld.trans (hb.mono hHeld.size)
      have rp := rp.bel hb
      have rs := rs.bel hb
      have ro := ro.bel hb
      have rl := rl.bel hb
      have rr := rr.bel hb
      have r39 := r39.bel hb
      have s39 := s39.bel hb
      have r52 := r52.bel hb
      have r53 := r53.bel hb
      have hbc := hbc.trans (hb.mono hbc.size)
      refine hK.out _ _ ?_ (fun hHeld2 => ?_)
      · exact hHeldN
      clear hK K hHeldN hb; have hHeld := hHeld2; clear hHeld2
      try simp only [Act.put, tl1, tl2, tl3]
      exact hCut Ac50 Af50 b52 b53 V50 ⟨n50, r52, r53, hbc, hHeld⟩
    refine AllReadyH.cons (o := ⟨_, _, _, _, _, _⟩) rfl (fun K hK => ?_) AllReadyH.nil
    go_simp
    obtain ⟨b53, V53, eb53, ev53, r53, hb⟩ := mk_row (cells := icell) Wd7 #[.int .i64 30, .int .i64 60, .int .i64 30] 3 [30, 60, 30] rfl
    rw [ev53.out, eb53.out]
    have hHeldN := hHeld.trans (hb.mono hHeld.size)
    have rp := rp.bel hb
    have rs := rs.bel hb
    have ro := ro.bel hb
    have rl := rl.bel hb
    have rr := rr.bel hb
    have r39 := r39.bel hb
    have s39 := s39.bel hb
    have hbc := hbc.trans (hb.mono hbc.size)
    refine hK.out _ _ ?_ (fun hHeld2 => ?_)
    · exact hHeldN
    clear hK K hHeldN hb; have hHeld := hHeld2; clear hHeld2
    try simp only [Act.put, tl1, tl2, tl3]
    refine wpAnyH_ready (rs := [0, 2]) (by kernel_rfl) (by simp) ?_
    refine AllReadyH.cons (o := ⟨_, _, _, _, _, _⟩) rfl (fun K hK => ?_) ?_
    ·
      go_simp
      refine (garden_any _).mono ?_
      rintro e V50 ⟨Ac50, Af50, rfl, n50, hb⟩
      go_wp2_with fail
      have hHeldN := hHeld.trans (hb.mono hHeld.size)
      have rp := rp.bel hb
      have rs := rs.bel hb
      have ro := ro.bel hb
      have rl := rl.bel hb
      have rr := rr.bel hb
      have r39 := r39.bel hb
      have s39 := s39.bel hb
      have r53 := r53.bel hb
      have hbc := hbc.trans (hb.mono hbc.size)
      refine hK.out _ _ ?_ (fun hHeld2 => ?_)
      · exact hHeldN
      clear hK K hHeldN hb; have hHeld := hHeld2; clear hHeld2
      try simp only [Act.put, tl1, tl2, tl3]
      refine wpAnyH_ready (rs := [2]) (by kernel_rfl) (by simp) ?_
      refine AllReadyH.cons (o := ⟨_, _, _, _, _, _⟩) rfl (fun K hK => ?_) AllReadyH.nil
      go_simp
      obtain ⟨b52, V52, eb52, ev52, r52, hb⟩ := mk_row (cells := icell) V50 #[.int .i64 0, .int .i64 1, .int .i64 0] 3 [0, 1, 0] rfl
      rw [ev52.out, eb52.out]
      have hHeldN := hHeld.trans (hb.mono hHeld.size)
      have rp := rp.bel hb
      have rs := rs.bel hb
      have ro := ro.bel hb
      have rl := rl.bel hb
      have rr := rr.bel hb
      have r39 := r39.bel hb
      have s39 := s39.bel hb
      have r53 := r53.bel hb
      have n50 := n50.bel hb
      have hbc := hbc.trans (hb.mono hbc.size)
      refine hK.out _ _ ?_ (fun hHeld2 => ?_)
      · exact hHeldN
      clear hK K hHeldN hb; have hHeld := hHeld2; clear hHeld2
      try simp only [Act.put, tl1, tl2, tl3]
      exact hCut Ac50 Af50 b52 b53 V52 ⟨n50, r52, r53, hbc, hHeld⟩
    refine AllReadyH.cons (o := ⟨_, _, _, _, _, _⟩) rfl (fun K hK => ?_) AllReadyH.nil
    go_simp
    obtain ⟨b52, V52, eb52, ev52, r52, hb⟩ := mk_row (cells := icell) V53 #[.int .i64 0, .int .i64 1, .int .i64 0] 3 [0, 1, 0] rfl
    rw [ev52.out, eb52.out]
    have hHeldN := hHeld.trans (hb.mono hHeld.size)
    have rp := rp.bel hb
    have rs := rs.bel hb
    have ro := ro.bel hb
    have rl := rl.bel hb
    have rr := rr.bel hb
    have r39 := r39.bel hb
    have s39 := s39.bel hb
    have r53 := r53.bel hb
    have hbc := hbc.trans (hb.mono hbc.size)
    refine hK.out _ _ ?_ (fun hHeld2 => ?_)
    · exact hHeldN
    clear hK K hHeldN hb; have hHeld := hHeld2; clear hHeld2
    try simp only [Act.put, tl1, tl2, tl3]
    refine wpAnyH_ready (rs := [0]) (by kernel_rfl) (by simp) ?_
    refine AllReadyH.cons (o := ⟨_, _, _, _, _, _⟩) rfl (fun K hK => ?_) AllReadyH.nil
    go_simp
    refine (garden_any _).mono ?_
    rintro e V50 ⟨Ac50, Af50, rfl, n50, hb⟩
    go_wp2_with fail
    have hHeldN := hHeld.trans (hb.mono hHeld.size)
    have rp := rp.bel hb
    have rs := rs.bel hb
    have ro := ro.bel hb
    have rl := rl.bel hb
    have rr := rr.bel hb
    have r39 := r39.bel hb
    have s39 := s39.bel hb
    have r53 := r53.bel hb
    have r52 := r52.bel hb
    have hbc := hbc.trans (hb.mono hbc.size)
    refine hK.out _ _ ?_ (fun hHeld2 => ?_)
    · exact hHeldN
    clear hK K hHeldN hb; have hHeld := hHeld2; clear hHeld2
    try simp only [Act.put, tl1, tl2, tl3]
    exact hCut Ac50 Af50 b52 b53 V50 ⟨n50, r52, r53, hbc, hHeld⟩
  intro Ac50 Af50 b52 b53 Wc7_1 ⟨n50, r52, r53, hbN, hHeldN⟩
  have rp := rp.bel hbN
  have rs := rs.bel hbN
  have ro := ro.bel hbN
  have rl := rl.bel hbN
  have rr := rr.bel hbN
  have r39 := r39.bel hbN
  have s39 := s39.bel hbN
  have hbc := hbc.trans (hbN.mono hbc.size); clear hHeld hbN; have hHeld := hHeldN; clear hHeldN
  refine wpAnyH_ready (rs := [4]) (by kernel_rfl) (by simp) ?_
  refine AllReadyH.cons (o := ⟨_, _, _, _, _, _⟩) rfl (fun K hK => ?_) AllReadyH.nil
  go_simp
  refine (order_fn _ _ _ _ _ _ _ _ _ _ _ _ _ _ _ _ _ _ [0, 1, 0] [30, 60, 30] _ n50 r52 r53 rfl rfl (by decide) (by decide)).mono ?_
  rintro e V54 ⟨v1, rfl, o1, hb⟩
  simp only [gar_order] at o1 ⊢
  obtain ⟨A54, c54, rfl, r54⟩ := o1.rdn 3 rfl
  clear o1
  go_wp2_with fail
  have hHeldN := hHeld.trans (hb.mono hHeld.size)
  have rp := rp.bel hb
  have rs := rs.bel hb
  have ro := ro.bel hb
  have rl := rl.bel hb
  have rr := rr.bel hb
  have r39 := r39.bel hb
  have s39 := s39.bel hb
  have n50 := n50.bel hb
  have r52 := r52.bel hb
  have r53 := r53.bel hb
  have hbc := hbc.trans (hb.mono hbc.size)
  refine hK.out _ _ ?_ (fun hHeld2 => ?_)
  · exact hHeldN
  clear hK K hHeld hHeldN hb; have hHeld := hHeld2; clear hHeld2
  try simp only [Act.put, tl1, tl2, tl3]
  iterate 7
    refine tkHl [5, 6, 7, 8, 9, 10, 11] ?_ rfl rfl (Or.inl ⟨by rfl, ?_⟩) hHeld ?_
    rotate_left
    · (intro w _; go_simp; try (with_reducible rfl))
    try simp only [Act.put, tl1, tl2, tl3]
  refine wpAnyH_done (by kernel_rfl) ?_ _
  replace hB := c9.trans (hHeld.mono c9.size)
  clear hbc hHeld c9 x1 Hx
  go_wp2_with fail
  refine (sInts _ _ [0, 2] _ _ _ _ _ (rp.bel (below_new _ _)) (Rd.newb _ _ _ _ rfl) rfl rfl (by decide)).mono ?_
  rintro e y1 ⟨rfl, g1⟩
  replace g1 := bel2 g1
  replace rs := rs.bel g1
  replace ro := ro.bel g1
  replace rl := rl.bel g1
  replace rr := rr.bel g1
  replace r39 := r39.bel g1
  replace s39 := s39.bel g1
  replace r54 := r54.bel g1
  replace hB := hB.trans (g1.mono hB.size)
  clear g1
  go_wp2_with fail
  refine (sInts _ _ [1] _ _ _ _ _ (rs.bel (below_new _ _)) (Rd.newb _ _ _ _ rfl) rfl rfl (by decide)).mono ?_
  rintro e y2 ⟨rfl, g2⟩
  replace g2 := bel2 g2
  replace ro := ro.bel g2
  replace rl := rl.bel g2
  replace rr := rr.bel g2
  replace r39 := r39.bel g2
  replace s39 := s39.bel g2
  replace r54 := r54.bel g2
  replace hB := hB.trans (g2.mono hB.size)
  clear g2
  go_wp2_with fail
  refine (sInts _ _ [2] _ _ _ _ _ (ro.bel (below_new _ _)) (Rd.newb _ _ _ _ rfl) rfl rfl (by decide)).mono ?_
  rintro e y3 ⟨rfl, g3⟩
  replace g3 := bel2 g3
  replace rl := rl.bel g3
  replace rr := rr.bel g3
  replace r39 := r39.bel g3
  replace s39 := s39.bel g3
  replace r54 := r54.bel g3
  replace hB := hB.trans (g3.mono hB.size)
  clear g3
  go_wp2_with fail
  obtain ⟨b85, z1, eb1, ez1, r85, k1⟩ := mk_row (cells := icell) y3 #[.int .i64 0, .int .i64 1] 3 [0, 1] rfl
  obtain ⟨b86, z2, eb2, ez2, r86, k2⟩ := mk_row (cells := icell) z1 #[.int .i64 2] 3 [2] rfl
  obtain ⟨b87, z3, eb3, ez3, r87, k3⟩ := mk_row (cells := icell) z2 #[.int .i64 0, .int .i64 1] 3 [0, 1] rfl
  have e2 : y3.heap.size + 1 = b86 := by rw [← eb2.out, ← ez1.out]; simp
  have e3 : y3.heap.size + 1 + 1 = b87 := by rw [← eb3.out, ← ez2.out, ← ez1.out]; simp
  have e4 : y3.heap.size + 1 + 1 + 1 = z3.heap.size := by rw [← ez3.out, ← ez2.out, ← ez1.out]; simp
  rw [ez1.out, ez2.out, ez3.out, e4, e3, e2, eb1.out]
  replace rl := ((rl.bel k1).bel k2).bel k3
  replace rr := ((rr.bel k1).bel k2).bel k3
  replace r85 := (r85.bel k2).bel k3
  replace r86 := r86.bel k3
  replace k1 := k1.trans (k2.mono k1.size)
  replace k1 := k1.trans (k3.mono k1.size)
  refine (sameLists_true _ _ _ _ [[0, 1], [2], [0, 1]] _ _ _ _ rfl (by decide) (rl.bel (below_new _ _)) (Rd.newb _ _ _ [⟨some ⟨b85, 0, none⟩, 2, 2⟩, ⟨some ⟨b86, 0, none⟩, 1, 1⟩, ⟨some ⟨b87, 0, none⟩, 2, 2⟩] rfl) (rr.bel (below_new _ _)) ((rows3 r85 r86 r87).bel (below_new _ _)) (by decide)).mono ?_
  rintro e y4 ⟨rfl, g4⟩
  replace g4 := k1.trans ((bel2 g4).mono k1.size)
  clear k1 k2 k3 eb1 eb2 eb3 ez1 ez2 ez3 e2 e3 e4 r85 r86 r87 rl rr
  replace r39 := r39.bel g4
  replace s39 := s39.bel g4
  replace r54 := r54.bel g4
  replace hB := hB.trans (g4.mono hB.size)
  clear g4
  go_wp2_with fail
  refine (span_any _ _ _).mono ?_
  rintro e y5 ⟨rfl, g5⟩
  go_wp2_with fail
  refine (span_any _ _ _).mono ?_
  rintro e y6 ⟨rfl, g6⟩
  go_wp2_with fail
  replace r39 := (r39.bel g5).bel g6
  refine (sSpans _ _ _ _ _ _ _ _ (r39.bel (below_new _ _)) (Rd.newb _ _ _ _ rfl) rfl rfl (by decide)).mono ?_
  rintro e y7 ⟨rfl, g7⟩
  replace g7 := bel2 g7
  replace s39 := ((s39.bel g5).bel g6).bel g7
  replace r54 := ((r54.bel g5).bel g6).bel g7
  replace hB := hB.trans (g5.mono hB.size)
  replace hB := hB.trans (g6.mono hB.size)
  replace hB := hB.trans (g7.mono hB.size)
  clear g5 g6 g7 r39
  go_wp2_with fail
  refine (span_any _ _ _).mono ?_
  rintro e y8 ⟨rfl, g5⟩
  go_wp2_with fail
  refine (span_any _ _ _).mono ?_
  rintro e y9 ⟨rfl, g6⟩
  go_wp2_with fail
  refine (span_any _ _ _).mono ?_
  rintro e y10 ⟨rfl, g7⟩
  go_wp2_with fail
  replace s39 := ((s39.bel g5).bel g6).bel g7
  refine (sSpans _ _ _ _ _ _ _ _ (s39.bel (below_new _ _)) (Rd.newb _ _ _ _ rfl) rfl rfl (by decide)).mono ?_
  rintro e y11 ⟨rfl, g8⟩
  replace g8 := bel2 g8
  replace r54 := (((r54.bel g5).bel g6).bel g7).bel g8
  replace hB := hB.trans (g5.mono hB.size)
  replace hB := hB.trans (g6.mono hB.size)
  replace hB := hB.trans (g7.mono hB.size)
  replace hB := hB.trans (g8.mono hB.size)
  clear g5 g6 g7 g8 s39
  go_wp2_with fail
  refine (sInts _ _ [1, 0, 2] _ _ _ _ _ (r54.bel (below_new _ _)) (Rd.newb _ _ _ _ rfl) rfl rfl (by decide)).mono ?_
  rintro e y12 ⟨rfl, g9⟩
  replace g9 := bel2 g9
  replace hB := hB.trans (g9.mono hB.size)
  clear g9
  go_wp2_with fail
  go_ret
  exact ⟨rfl, hB⟩
end Go.Proofs.Ythlnbgjlkliopaa
