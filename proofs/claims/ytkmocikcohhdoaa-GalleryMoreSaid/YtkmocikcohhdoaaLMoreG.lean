/- GalleryMore: with a gauge more, or with what is known better, no flow is told wider, and no more reaches are suspected. The law returns true for every gallery, flow in, gauges, a gauge more and numbers. No conditions. -/
import Derived.Test.YtkmocikcohhdoaaJ13
import Derived.Test.YtkmocikcohhdoaaJ1
import Derived.Test.YtkmocikcohhdoaaF18
import Derived.Test.YtkmocikcohhdoaaApp3
import Derived.Test.YtkmocikcohhdoaaApp2
import Derived.Test.YtkmocikcohhdoaaSized
import Derived.Test.YtkmocikcohhdoaaOpenW
import Derived.Deep.Cut
set_option linter.unusedVariables false
set_option linter.unusedSimpArgs false
namespace Go.Proofs.Ytkmocikcohhdoaa
open Go.RowKit Go.Shelf Go.WideShapes Go.ChangeShapes Go.ChangeAt
theorem mapB : MapLaw Try.prog 77 3 4 Value.bool ldB (fun _ => True) false :=
  mapLaw_bool Try.underlying3 Try.underlying77 Try.underlying4 (fun w => by kernel_rfl)
set_option maxHeartbeats 40000000 in
set_option maxRecDepth 100000 in
theorem moreg_walk (A A1 B : Option Addr) (g : List Rc) (s t : Sp) (l : List Ga) (x : Ga) (bys : List Nat) (n c n1 c1 nb cb : Nat) (w : World) (hn : n = g.length) (hm : n ≤ 9223372036854775807) (hx : Rd w w.heap.size Rc.cells A g)
    (hnl : n1 = l.length) (hbg : n1 * 24 ≤ 140737488351232) (hxl : Rd w w.heap.size Ga.cells A1 l) (hnb : nb = bys.length) (hnb2 : nb ≤ 9223372036854775807) (hby : Rd w w.heap.size u32cell B bys) (h32 : ∀ x ∈ bys, x ≤ 4294967295) :
    Calls Try.prog 13 #[.slice A n c, .agg #[.int .i64 s.lo, .int .i64 s.hi], .agg #[.int .i64 t.lo, .int .i64 t.hi], .slice A1 n1 c1, .agg #[.int .i64 x.shaft, .int .i64 x.flow.lo, .int .i64 x.flow.hi], .slice B nb cb] w fun e w' => e = .returned (.bool true) ∧ Below w.heap.size w w' := by
  obtain ⟨b7, w1, e7, ew1, hx7, hb1, hz1⟩ := mk_bx w #[.int .i64 s.lo, .int .i64 s.hi] 24
  obtain ⟨b8, wa, e8, ew2, hx8, hb2, hz2⟩ := mk_bx w1 #[.int .i64 t.lo, .int .i64 t.hi] 24
  obtain ⟨b10, wb, e10, ew3, hx10, hb3, hz3⟩ := mk_bx wa #[.int .i64 x.shaft, .int .i64 x.flow.lo, .int .i64 x.flow.hi] 64
  obtain ⟨b11, w2, e11, ew4, hx11, hb4, hz4⟩ := mk_bx wb #[.slice B nb cb] 67
  have e78 : b7 + 1 = b8 := by have := e8.out; omega
  have e810 : b8 + 1 = b10 := by have := e10.out; omega
  have e1011 : b10 + 1 = b11 := by have := e11.out; omega
  have hBa := hb1.trans (hb2.mono hb1.size)
  have hBb := hBa.trans (hb3.mono hBa.size)
  have hB2 := hBb.trans (hb4.mono hBb.size)
  have Hn := hide hn; have Hn1 := hide hnl; have Hnb := hide hnb; have H32 := hide h32
  have rg := hx.bel hB2; have rl := hxl.bel hB2; have rby := hby.bel hB2
  replace hx7 := ((hx7.bel hb2).bel hb3).bel hb4; replace hx8 := (hx8.bel hb3).bel hb4; replace hx10 := hx10.bel hb4
  clear hn hnl hnb h32 hx hxl hby hz1 hz2 hz3 hz4 hb1 hb2 hb3 hb4 hBa hBb
  go_enter Try.func13, Try.ntmps13
  go_wp2_with fail
  rw [ew1.out, e7.out, e78, ew2.out, e810, ew3.out, e1011, ew4.out]
  refine (galive_any _).mono ?_
  rintro e w3 ⟨rfl, hb3⟩
  have hB3 := hB2.trans (hb3.mono hB2.size)
  replace hx7 := hx7.bel hb3; replace hx8 := hx8.bel hb3; replace hx10 := hx10.bel hb3; replace hx11 := hx11.bel hb3
  replace rg := rg.bel hb3; replace rl := rl.bel hb3; replace rby := rby.bel hb3
  clear hb3
  go_wp2_with fail
  refine wp_region_held_drew (S := (fun W => Below w3.heap.size w3 W)) (by kernel_rfl) (by (try dsimp only); exact (Below.refl _ _).drew) (fun hHeld => ?_)
  generalize World.drew w3 = Wd4 at hHeld ⊢
  have hbc := Below.refl Wd4.heap.size Wd4
  refine wpAnyH_take (i := 1) (oi := ⟨_, _, _, _, _, _⟩) (v := ?_) rfl (by kernel_rfl) (by kernel_rfl) (by kernel_rfl) (fun _ _ _ h => h) (Or.inl ⟨by rfl, ?_⟩) hHeld ?_
  rotate_left
  · (intro w hSw; (try dsimp only at hSw); go_simp; try (with_reducible rfl))
  try simp only [Act.put, List.setIfInBounds_toArray, List.set_cons_zero, List.set_cons_succ]
  refine wpAnyH_take (i := 3) (oi := ⟨_, _, _, _, _, _⟩) (v := ?_) rfl (by kernel_rfl) (by kernel_rfl) (by kernel_rfl) (fun _ _ _ h => h) (Or.inl ⟨by rfl, ?_⟩) hHeld ?_
  rotate_left
  · (intro w hSw; (try dsimp only at hSw); obtain ⟨y0, y1, y2⟩ := (hx10.bel hSw).at_.c3; go_simp; try (with_reducible rfl))
  try simp only [Act.put, List.setIfInBounds_toArray, List.set_cons_zero, List.set_cons_succ]
  refine cut3 (C := fun (b43 : Nat) (v45 : Value) (b47 : Nat) (Wc4_1 : World) => (Own Wc4_1 w3.heap.size 64 3 Ga.cells (.slice (some ⟨b43, 0, none⟩) 0 0) []) ∧ (Own Wc4_1 w3.heap.size 64 3 Ga.cells v45 l) ∧ (Rd Wc4_1 Wc4_1.heap.size Ga.cells (some ⟨b47, 0, none⟩) [x]) ∧ Below Wd4.heap.size Wd4 Wc4_1 ∧ Below w3.heap.size w3 Wc4_1) (G := ?_) ?_ ?_
  rotate_left
  · intro hCut
    replace hbc := Below.refl Wd4.heap.size Wd4
    refine wpAnyH_ready (rs := [0, 4]) (by kernel_rfl) (by simp) ?_
    refine AllReadyH.cons (o := ⟨_, _, _, _, _, _⟩) rfl (fun K hK => ?_) ?_
    ·
      go_simp
      obtain ⟨b43, V43, eb43, ev43, o43, hb⟩ := mk_own (cells := Ga.cells) Wd4 #[] 64 3 [] Ga.len rfl (by decide) w3.heap.size hHeld.size
      rw [ev43.out, eb43.out]
      have hHeldN := hHeld.trans (hb.mono hHeld.size)
      have hbc := hbc.trans (hb.mono hbc.size)
      refine hK.out _ _ ?_ (fun hHeld2 => ?_)
      · exact hHeldN
      clear hK K hHeldN hb; have hHeld := hHeld2; clear hHeld2
      try simp only [Act.put, List.setIfInBounds_toArray, List.set_cons_zero, List.set_cons_succ]
      refine wpAnyH_ready (rs := [2, 4]) (by kernel_rfl) (by simp) ?_
      refine AllReadyH.cons (o := ⟨_, _, _, _, _, _⟩) rfl (fun K hK => ?_) ?_
      ·
        refine op_freshB el_ga (.tmp 43) (.tmp 44) rfl rfl o43 Hn1.out.symm rfl ((rl.below hHeld).more hHeld.size) (by decide) (by omega) hHeld.size ?_
        intro v45 V45 o45 hb _
        have hHeldN := hHeld.trans (hb.mono hHeld.size)
        have o43 := o43.bel hb
        have hbc := hbc.trans (hb.mono hbc.size)
        refine hK.out _ _ ?_ (fun hHeld2 => ?_)
        · exact hHeldN
        clear hK K hHeldN hb; have hHeld := hHeld2; clear hHeld2
        try simp only [Act.put, List.setIfInBounds_toArray, List.set_cons_zero, List.set_cons_succ]
        refine wpAnyH_ready (rs := [4]) (by kernel_rfl) (by simp) ?_
        refine AllReadyH.cons (o := ⟨_, _, _, _, _, _⟩) rfl (fun K hK => ?_) AllReadyH.nil
        go_simp
        obtain ⟨b47, V47, eb47, ev47, r47, hb⟩ := mk_row (cells := Ga.cells) V45 #[.int .i64 x.shaft, .int .i64 x.flow.lo, .int .i64 x.flow.hi] 64 [x] rfl
        rw [ev47.out, eb47.out]
        have hHeldN := hHeld.trans (hb.mono hHeld.size)
        have o43 := o43.bel hb
        have o45 := o45.bel hb
        have hbc := hbc.trans (hb.mono hbc.size)
        refine hK.out _ _ ?_ (fun hHeld2 => ?_)
        · exact hHeldN
        clear hK K hHeldN hb; have hHeld := hHeld2; clear hHeld2
        try simp only [Act.put, List.setIfInBounds_toArray, List.set_cons_zero, List.set_cons_succ]
        exact hCut b43 v45 b47 V47 ⟨o43, o45, r47, hbc, hHeld⟩
      refine AllReadyH.cons (o := ⟨_, _, _, _, _, _⟩) rfl (fun K hK => ?_) AllReadyH.nil
      go_simp
      obtain ⟨b47, V47, eb47, ev47, r47, hb⟩ := mk_row (cells := Ga.cells) V43 #[.int .i64 x.shaft, .int .i64 x.flow.lo, .int .i64 x.flow.hi] 64 [x] rfl
      rw [ev47.out, eb47.out]
      have hHeldN := hHeld.trans (hb.mono hHeld.size)
      have o43 := o43.bel hb
      have hbc := hbc.trans (hb.mono hbc.size)
      refine hK.out _ _ ?_ (fun hHeld2 => ?_)
      · exact hHeldN
      clear hK K hHeldN hb; have hHeld := hHeld2; clear hHeld2
      try simp only [Act.put, List.setIfInBounds_toArray, List.set_cons_zero, List.set_cons_succ]
      refine wpAnyH_ready (rs := [2]) (by kernel_rfl) (by simp) ?_
      refine AllReadyH.cons (o := ⟨_, _, _, _, _, _⟩) rfl (fun K hK => ?_) AllReadyH.nil
      refine op_freshB el_ga (.tmp 43) (.tmp 44) rfl rfl o43 Hn1.out.symm rfl ((rl.below hHeld).more hHeld.size) (by decide) (by omega) hHeld.size ?_
      intro v45 V45 o45 hb _
      have hHeldN := hHeld.trans (hb.mono hHeld.size)
      have o43 := o43.bel hb
      have r47 := r47.bel hb
      have hbc := hbc.trans (hb.mono hbc.size)
      refine hK.out _ _ ?_ (fun hHeld2 => ?_)
      · exact hHeldN
      clear hK K hHeldN hb; have hHeld := hHeld2; clear hHeld2
      try simp only [Act.put, List.setIfInBounds_toArray, List.set_cons_zero, List.set_cons_succ]
      exact hCut b43 v45 b47 V45 ⟨o43, o45, r47, hbc, hHeld⟩
    refine AllReadyH.cons (o := ⟨_, _, _, _, _, _⟩) rfl (fun K hK => ?_) AllReadyH.nil
    go_simp
    obtain ⟨b47, V47, eb47, ev47, r47, hb⟩ := mk_row (cells := Ga.cells) Wd4 #[.int .i64 x.shaft, .int .i64 x.flow.lo, .int .i64 x.flow.hi] 64 [x] rfl
    rw [ev47.out, eb47.out]
    have hHeldN := hHeld.trans (hb.mono hHeld.size)
    have hbc := hbc.trans (hb.mono hbc.size)
    refine hK.out _ _ ?_ (fun hHeld2 => ?_)
    · exact hHeldN
    clear hK K hHeldN hb; have hHeld := hHeld2; clear hHeld2
    try simp only [Act.put, List.setIfInBounds_toArray, List.set_cons_zero, List.set_cons_succ]
    refine wpAnyH_ready (rs := [0]) (by kernel_rfl) (by simp) ?_
    refine AllReadyH.cons (o := ⟨_, _, _, _, _, _⟩) rfl (fun K hK => ?_) AllReadyH.nil
    go_simp
    obtain ⟨b43, V43, eb43, ev43, o43, hb⟩ := mk_own (cells := Ga.cells) V47 #[] 64 3 [] Ga.len rfl (by decide) w3.heap.size hHeld.size
    rw [ev43.out, eb43.out]
    have hHeldN := hHeld.trans (hb.mono hHeld.size)
    have r47 := r47.bel hb
    have hbc := hbc.trans (hb.mono hbc.size)
    refine hK.out _ _ ?_ (fun hHeld2 => ?_)
    · exact hHeldN
    clear hK K hHeldN hb; have hHeld := hHeld2; clear hHeld2
    try simp only [Act.put, List.setIfInBounds_toArray, List.set_cons_zero, List.set_cons_succ]
    refine wpAnyH_ready (rs := [2]) (by kernel_rfl) (by simp) ?_
    refine AllReadyH.cons (o := ⟨_, _, _, _, _, _⟩) rfl (fun K hK => ?_) AllReadyH.nil
    refine op_freshB el_ga (.tmp 43) (.tmp 44) rfl rfl o43 Hn1.out.symm rfl ((rl.below hHeld).more hHeld.size) (by decide) (by omega) hHeld.size ?_
    intro v45 V45 o45 hb _
    have hHeldN := hHeld.trans (hb.mono hHeld.size)
    have r47 := r47.bel hb
    have o43 := o43.bel hb
    have hbc := hbc.trans (hb.mono hbc.size)
    refine hK.out _ _ ?_ (fun hHeld2 => ?_)
    · exact hHeldN
    clear hK K hHeldN hb; have hHeld := hHeld2; clear hHeld2
    try simp only [Act.put, List.setIfInBounds_toArray, List.set_cons_zero, List.set_cons_succ]
    exact hCut b43 v45 b47 V45 ⟨o43, o45, r47, hbc, hHeld⟩
  intro b43 v45 b47 Wc4_1 ⟨o43, o45, r47, hbN, hHeldN⟩
  have hbc := hbc.trans (hbN.mono hbc.size); clear hHeld hbN; have hHeld := hHeldN; clear hHeldN
  refine wpAnyH_ready (rs := [5]) (by kernel_rfl) (by simp) ?_
  refine AllReadyH.cons (o := ⟨_, _, _, _, _, _⟩) rfl (fun K hK => ?_) AllReadyH.nil
  refine op_appB (v := v45) (xs := l) (ys := [x]) (n := 1) el_ga (.tmp 45) (.tmp 47) rfl rfl o45 rfl rfl r47 (by decide) (by have := Hn1.out; omega) hHeld.size ?_
  intro v48 V48 o48 hg hat
  have hHeldN := own_grown o45 hHeld hg (Nat.le_refl _)
  refine hK.out _ _ ?_ (fun hHeld2 => ?_)
  · exact hHeldN
  clear hK K hHeld hHeldN hbc; have hHeld := hHeld2; clear hHeld2
  have hbc := Below.refl V48.heap.size V48
  try simp only [Act.put, List.setIfInBounds_toArray, List.set_cons_zero, List.set_cons_succ]
  refine wpAnyH_take (i := 6) (oi := ⟨_, _, _, _, _, _⟩) (v := ?_) rfl (by kernel_rfl) (by kernel_rfl) (by kernel_rfl) (fun _ _ _ h => h) (Or.inl ⟨by rfl, ?_⟩) hHeld ?_
  rotate_left
  · (intro w hSw; (try dsimp only at hSw); go_simp; try (with_reducible rfl))
  try simp only [Act.put, List.setIfInBounds_toArray, List.set_cons_zero, List.set_cons_succ]
  refine wpAnyH_done (by kernel_rfl) ?_ _
  have hB4 := hB3.trans (hHeld.mono hB3.size)
  replace hx7 := hx7.bel hHeld; replace hx8 := hx8.bel hHeld; replace hx11 := hx11.bel hHeld
  replace rg := rg.bel hHeld; replace rl := rl.bel hHeld; replace rby := rby.bel hHeld
  obtain ⟨w4, rfl⟩ : ∃ w4, w4 = V48 := ⟨V48, rfl⟩
  obtain ⟨A2, c2, rfl, r48⟩ := o48.rdn (n1 + 1) (by rw [List.length_append, ← Hn1.out]; rfl)
  have r48 := r48.bel (Below.refl _ _)
  clear hHeld hbc o48
  obtain ⟨q0, q1, _, _⟩ := hx7.w2
  go_wp2_with fail
  refine (gready_any A g s n c w4 Hn.out hm rg).mono ?_
  rintro e w5 ⟨rfl, hb5⟩
  have hB5 := hB4.trans (hb5.mono hB4.size)
  replace hx7 := hx7.bel hb5; replace hx8 := hx8.bel hb5; replace hx11 := hx11.bel hb5
  replace rg := rg.bel hb5; replace rl := rl.bel hb5; replace rby := rby.bel hb5; replace r48 := r48.bel hb5
  clear q0 q1 hb5 hB4
  cases hok : gOk g && Sp.ok 0 1000000 s
  · clear hok
    go_wp2_with fail
    go_ret
    exact ⟨rfl, hB5⟩
  obtain ⟨hg, hso⟩ := (Bool.and_eq_true _ _).mp hok
  have hgl := gOk_len hg
  have hn12 : n ≤ 12 := by rw [Hn.out]; exact hgl.2
  have hn1 : 1 ≤ n := by rw [Hn.out]; exact hgl.1
  have Hg := hide hg; have Hso := hide hso
  clear hok hg hso hgl
  go_wp2_with fail
  refine (rgauges_any A A2 n (l ++ [x]) c (n1 + 1) c2 w5 hm (by rw [List.length_append, ← Hn1.out]; rfl) (by omega) r48).mono ?_
  rintro e w6 ⟨rfl, hb6⟩
  have hB6 := hB5.trans (hb6.mono hB5.size)
  replace hx7 := hx7.bel hb6; replace hx8 := hx8.bel hb6; replace hx11 := hx11.bel hb6
  replace rg := rg.bel hb6; replace rl := rl.bel hb6; replace rby := rby.bel hb6; replace r48 := r48.bel hb6
  clear hb6 hB5
  cases hga : !(decide (30 < (l ++ [x]).length) || (l ++ [x]).any (Ga.bad n))
  · clear hga
    go_wp2_with fail
    go_ret
    exact ⟨rfl, hB6⟩
  have he : gEnter g s (l ++ [x]) = 0 := by
    unfold gEnter gasBad
    have h1 : anyBad 1000000 [s] = false := by
      have := anyBad_one 1000000 s
      rw [Hso.out] at this
      simpa using this
    rw [Hg.out, if_pos rfl, h1, if_neg (by decide), ← Hn.out, if_neg (by rw [Bool.not_eq_true', ] at hga; rw [hga]; decide)]
  obtain ⟨_, _, h30, hfine, hs1, hga1, hga2⟩ := enter_parts he
  have Hfine := hide hfine; have Hs1 := hide hs1
  have HvA := hide (show ∀ y ∈ l ++ [x], (0 ≤ y.shaft ∧ y.shaft ≤ g.length) ∧ y.flow.fine 13000000 from fun y hy => ⟨hga1 y hy, hga2 y hy⟩)
  have h30l : n1 ≤ 29 := by rw [List.length_append] at h30; simp at h30; have := Hn1.out; omega
  clear hga he hfine hs1 hga1 hga2 h30
  obtain ⟨p0, p1, _, _⟩ := hx8.w2
  go_wp2_with fail
  refine (spanned_any _ _ _ _ _).mono ?_
  rintro e w7 ⟨rfl, hb7⟩
  have hB7 := hB6.trans (hb7.mono hB6.size)
  replace hx7 := hx7.bel hb7; replace hx8 := hx8.bel hb7; replace hx11 := hx11.bel hb7
  replace rg := rg.bel hb7; replace rl := rl.bel hb7; replace rby := rby.bel hb7; replace r48 := r48.bel hb7
  clear hb7 hB6 p0 p1
  cases hto : Sp.ok 0 1000000 ⟨t.lo, t.hi⟩
  · clear hto
    go_wp2_with fail
    go_ret
    exact ⟨rfl, hB7⟩
  have Hto : Hid (Sp.ok 0 1000000 t = true) := hide hto
  have Ht1 := hide (okS_fine Hto.out)
  have X7 := hide hx7; have X8 := hide hx8; have X11 := hide hx11; have Rg := hide rg; have Rl := hide rl; have Rby := hide rby; have R48 := hide r48
  obtain ⟨w6, rfl⟩ : ∃ w6, w6 = w7 := ⟨w7, rfl⟩
  have L66 := hide (lit0 (cells := Rc.cells) w6 96 6 w6.heap.size Rc.len (Nat.le_refl _))
  have hb66 := hide (below_new w6 (.cells #[] 96))
  have R66 := hide ((rg.below hb66.out).more hb66.out.size)
  clear hto hx7 hx8 hx11 rg rl rby r48
  go_wp2_with (at_builtin; refine wpList_fresh el_rc rfl (.tmp 66) (.tmp 67) rfl rfl L66.out Hn.out.symm rfl R66.out (by omega) hb66.out.size ?_; intro va wa oa hba hata; obtain ⟨q, cq, rfl, hq1, hq2⟩ := oa.blkn Hn.out.symm hn1; clear hq2; have OA := hide oa; have HBA := hide (hb66.out.trans (hba.mono hb66.out.size)); clear oa hba hata)
  go_loopw [71] (fun i wq => ∃ (k : Nat) (D : List Rc), k ≤ n ∧ i = .int .i64 k ∧ Hid (Better g D) ∧ Hid (Own wq w6.heap.size 96 6 Rc.cells (.slice (some ⟨q, 0, none⟩) n cq) D) ∧ Below w6.heap.size w6 wq) (fun i _ => n - (intOf i).toNat)
  case atStart => exact ⟨0, g, by omega, rfl, hide (Better.refl Hfine.out), OA, HBA.out⟩
  case round =>
    obtain ⟨k, D, hk, rfl, HD, HO, hb⟩ := hrel
    by_cases hlt : k < n
    · obtain ⟨r, hxk⟩ : ∃ r, D[k]? = some r := ⟨_, List.getElem?_eq_getElem (by rw [HD.out.len, ← Hn.out]; exact hlt)⟩
      obtain ⟨u1, u2, u3⟩ := HD.out.fine r (List.mem_of_getElem? hxk)
      have Hxk := hide hxk
      have Hnd := hide (show n = D.length by rw [HD.out.len]; exact Hn.out)
      have Hnd2 := hide (fun (y : Rc) => show n = (D.set k y).length by rw [List.length_set]; exact Hnd.out)
      have OB := HO.out
      have rby := Rby.out.bel hb
      have x11 := X11.out.bel hb
      have nq : b11 ≠ q := by have := X11.out.lt; omega
      have fw1 : IntKind.i64.wrap (6 * (k : Int)) = 6 * (k : Int) := wrapI (by omega)
      have fw2 : IntKind.i64.wrap (6 * (k : Int) + 2) = 6 * (k : Int) + 2 := wrapI (by omega)
      have fw3 : IntKind.i64.wrap (6 * (k : Int) + 4) = 6 * (k : Int) + 4 := wrapI (by omega)
      have ik : (k : Int) < (n : Int) := by omega
      have Hb := hide hb
      clear hxk hb
      go_wp2_with fail
      refine wp_region_held_drew (S := (fun W => Kept (fun b => b ≠ q) wr W)) (by kernel_rfl) (by (try dsimp only); exact Kept.all _ (Below.refl _ _).drew) (fun hHeld => ?_)
      have hdr : Below wr.heap.size wr (World.drew wr) := (Below.refl _ _).drew
      generalize World.drew wr = Wd13 at hHeld hdr ⊢
      have OB := OB.bel hdr
      have rby := rby.bel hdr
      have x11 := x11.bel hdr
      have hbc := Below.refl Wd13.heap.size Wd13
      refine wpAnyH_take (i := 0) (oi := ⟨_, _, _, _, _, _⟩) (v := ?_) rfl (by kernel_rfl) (by kernel_rfl) (by kernel_rfl) (fun _ _ _ h => h) (Or.inl ⟨by rfl, ?_⟩) hHeld ?_
      rotate_left
      · (intro w hSw; (try dsimp only at hSw); go_simp; try (with_reducible rfl))
      try simp only [Act.put, List.setIfInBounds_toArray, List.set_cons_zero, List.set_cons_succ]
      refine wpAnyH_take (i := 1) (oi := ⟨_, _, _, _, _, _⟩) (v := ?_) rfl (by kernel_rfl) (by kernel_rfl) (by kernel_rfl) (fun _ _ _ h => h) (Or.inl ⟨by rfl, ?_⟩) hHeld ?_
      rotate_left
      · (intro w hSw; (try dsimp only at hSw); go_simp; try (with_reducible rfl))
      try simp only [Act.put, List.setIfInBounds_toArray, List.set_cons_zero, List.set_cons_succ]
      refine wpAnyH_take (i := 2) (oi := ⟨_, _, _, _, _, _⟩) (v := ?_) rfl (by kernel_rfl) (by kernel_rfl) (by kernel_rfl) (fun _ _ _ h => h) (Or.inl ⟨by rfl, ?_⟩) hHeld ?_
      rotate_left
      · (intro w hSw; (try dsimp only at hSw); go_simp; try (with_reducible rfl))
      try simp only [Act.put, List.setIfInBounds_toArray, List.set_cons_zero, List.set_cons_succ]
      refine wpAnyH_take (i := 3) (oi := ⟨_, _, _, _, _, _⟩) (v := ?_) rfl (by kernel_rfl) (by kernel_rfl) (by kernel_rfl) (fun _ _ _ h => h) (Or.inl ⟨by rfl, ?_⟩) hHeld ?_
      rotate_left
      · (intro w hSw; (try dsimp only at hSw); go_simp; try (with_reducible rfl))
      try simp only [Act.put, List.setIfInBounds_toArray, List.set_cons_zero, List.set_cons_succ]
      refine wpAnyH_take (i := 4) (oi := ⟨_, _, _, _, _, _⟩) (v := ?_) rfl (by kernel_rfl) (by kernel_rfl) (by kernel_rfl) (fun _ _ _ h => h) (Or.inl ⟨by rfl, ?_⟩) hHeld ?_
      rotate_left
      · (intro w hSw; (try dsimp only at hSw); go_simp; try (with_reducible rfl))
      try simp only [Act.put, List.setIfInBounds_toArray, List.set_cons_zero, List.set_cons_succ]
      refine wpAnyH_take (i := 5) (oi := ⟨_, _, _, _, _, _⟩) (v := ?_) rfl (by kernel_rfl) (by kernel_rfl) (by kernel_rfl) (fun _ _ _ h => h) (Or.inl ⟨by rfl, ?_⟩) hHeld ?_
      rotate_left
      · (intro w hSw; (try dsimp only at hSw); go_simp; try (with_reducible rfl))
      try simp only [Act.put, List.setIfInBounds_toArray, List.set_cons_zero, List.set_cons_succ]
      refine wpAnyH_take (i := 6) (oi := ⟨_, _, _, _, _, _⟩) (v := ?_) rfl (by kernel_rfl) (by kernel_rfl) (by kernel_rfl) (fun _ _ _ h => h) (Or.inl ⟨by rfl, ?_⟩) hHeld ?_
      rotate_left
      · (intro w hSw; (try dsimp only at hSw); go_simp; try (with_reducible rfl))
      try simp only [Act.put, List.setIfInBounds_toArray, List.set_cons_zero, List.set_cons_succ]
      refine wpAnyH_take (i := 8) (oi := ⟨_, _, _, _, _, _⟩) (v := ?_) rfl (by kernel_rfl) (by kernel_rfl) (by kernel_rfl) (fun _ _ _ h => h) (Or.inl ⟨by rfl, ?_⟩) hHeld ?_
      rotate_left
      · (intro w hSw; (try dsimp only at hSw); go_simp; try (with_reducible rfl))
      try simp only [Act.put, List.setIfInBounds_toArray, List.set_cons_zero, List.set_cons_succ]
      refine wpAnyH_take (i := 9) (oi := ⟨_, _, _, _, _, _⟩) (v := ?_) rfl (by kernel_rfl) (by kernel_rfl) (by kernel_rfl) (fun _ _ _ h => h) (Or.inl ⟨by rfl, ?_⟩) hHeld ?_
      rotate_left
      · (intro w hSw; (try dsimp only at hSw); go_simp; try (with_reducible rfl))
      try simp only [Act.put, List.setIfInBounds_toArray, List.set_cons_zero, List.set_cons_succ]
      refine wpAnyH_take (i := 11) (oi := ⟨_, _, _, _, _, _⟩) (v := ?_) rfl (by kernel_rfl) (by kernel_rfl) (by kernel_rfl) (fun _ _ _ h => h) (Or.inl ⟨by rfl, ?_⟩) hHeld ?_
      rotate_left
      · (intro w hSw; (try dsimp only at hSw); go_simp; try (with_reducible rfl))
      try simp only [Act.put, List.setIfInBounds_toArray, List.set_cons_zero, List.set_cons_succ]
      refine wpAnyH_take (i := 12) (oi := ⟨_, _, _, _, _, _⟩) (v := ?_) rfl (by kernel_rfl) (by kernel_rfl) (by kernel_rfl) (fun _ _ _ h => h) (Or.inl ⟨by rfl, ?_⟩) hHeld ?_
      rotate_left
      · (intro w hSw; (try dsimp only at hSw); go_simp; try (with_reducible rfl))
      try simp only [Act.put, List.setIfInBounds_toArray, List.set_cons_zero, List.set_cons_succ]
      refine wpAnyH_take (i := 13) (oi := ⟨_, _, _, _, _, _⟩) (v := ?_) rfl (by kernel_rfl) (by kernel_rfl) (by kernel_rfl) (fun _ _ _ h => h) (Or.inl ⟨by rfl, ?_⟩) hHeld ?_
      rotate_left
      · (intro w hSw; (try dsimp only at hSw); go_simp; try (with_reducible rfl))
      try simp only [Act.put, List.setIfInBounds_toArray, List.set_cons_zero, List.set_cons_succ]
      refine wpAnyH_take (i := 14) (oi := ⟨_, _, _, _, _, _⟩) (v := ?_) rfl (by kernel_rfl) (by kernel_rfl) (by kernel_rfl) (fun _ _ _ h => h) (Or.inl ⟨by rfl, ?_⟩) hHeld ?_
      rotate_left
      · (intro w hSw; (try dsimp only at hSw); go_simp; try (with_reducible rfl))
      try simp only [Act.put, List.setIfInBounds_toArray, List.set_cons_zero, List.set_cons_succ]
      refine wpAnyH_take (i := 16) (oi := ⟨_, _, _, _, _, _⟩) (v := ?_) rfl (by kernel_rfl) (by kernel_rfl) (by kernel_rfl) (fun _ _ _ h => h) (Or.inl ⟨by rfl, ?_⟩) hHeld ?_
      rotate_left
      · (intro w hSw; (try dsimp only at hSw); go_simp; try (with_reducible rfl))
      try simp only [Act.put, List.setIfInBounds_toArray, List.set_cons_zero, List.set_cons_succ]
      refine wpAnyH_take (i := 17) (oi := ⟨_, _, _, _, _, _⟩) (v := ?_) rfl (by kernel_rfl) (by kernel_rfl) (by kernel_rfl) (fun _ _ _ h => h) (Or.inl ⟨by rfl, ?_⟩) hHeld ?_
      rotate_left
      · (intro w hSw; (try dsimp only at hSw); go_simp; try (with_reducible rfl))
      try simp only [Act.put, List.setIfInBounds_toArray, List.set_cons_zero, List.set_cons_succ]
      refine wpAnyH_take (i := 18) (oi := ⟨_, _, _, _, _, _⟩) (v := ?_) rfl (by kernel_rfl) (by kernel_rfl) (by kernel_rfl) (fun _ _ _ h => h) (Or.inl ⟨by rfl, ?_⟩) hHeld ?_
      rotate_left
      · (intro w hSw; (try dsimp only at hSw); go_simp; try (with_reducible rfl))
      try simp only [Act.put, List.setIfInBounds_toArray, List.set_cons_zero, List.set_cons_succ]
      refine wpAnyH_take (i := 20) (oi := ⟨_, _, _, _, _, _⟩) (v := ?_) rfl (by kernel_rfl) (by kernel_rfl) (by kernel_rfl) (fun _ _ _ h => h) (Or.inl ⟨by rfl, ?_⟩) hHeld ?_
      rotate_left
      · (intro w hSw; (try dsimp only at hSw); go_simp; try (with_reducible rfl))
      try simp only [Act.put, List.setIfInBounds_toArray, List.set_cons_zero, List.set_cons_succ]
      refine wpAnyH_take (i := 21) (oi := ⟨_, _, _, _, _, _⟩) (v := ?_) rfl (by kernel_rfl) (by kernel_rfl) (by kernel_rfl) (fun _ _ _ h => h) (Or.inl ⟨by rfl, ?_⟩) hHeld ?_
      rotate_left
      · (intro w hSw; (try dsimp only at hSw); go_simp; try (with_reducible rfl))
      try simp only [Act.put, List.setIfInBounds_toArray, List.set_cons_zero, List.set_cons_succ]
      refine wpAnyH_take (i := 22) (oi := ⟨_, _, _, _, _, _⟩) (v := ?_) rfl (by kernel_rfl) (by kernel_rfl) (by kernel_rfl) (fun _ _ _ h => h) (Or.inl ⟨by rfl, ?_⟩) hHeld ?_
      rotate_left
      · (intro w hSw; (try dsimp only at hSw); go_simp; try (with_reducible rfl))
      try simp only [Act.put, List.setIfInBounds_toArray, List.set_cons_zero, List.set_cons_succ]
      refine wpAnyH_take (i := 23) (oi := ⟨_, _, _, _, _, _⟩) (v := ?_) rfl (by kernel_rfl) (by kernel_rfl) (by kernel_rfl) (fun _ _ _ h => h) (Or.inl ⟨by rfl, ?_⟩) hHeld ?_
      rotate_left
      · (intro w hSw; (try dsimp only at hSw); go_simp; try (with_reducible rfl))
      try simp only [Act.put, List.setIfInBounds_toArray, List.set_cons_zero, List.set_cons_succ]
      refine wpAnyH_take (i := 25) (oi := ⟨_, _, _, _, _, _⟩) (v := ?_) rfl (by kernel_rfl) (by kernel_rfl) (by kernel_rfl) (fun _ _ _ h => h) (Or.inl ⟨by rfl, ?_⟩) hHeld ?_
      rotate_left
      · (intro w hSw; (try dsimp only at hSw); go_simp; try (with_reducible rfl))
      try simp only [Act.put, List.setIfInBounds_toArray, List.set_cons_zero, List.set_cons_succ]
      refine wpAnyH_take (i := 26) (oi := ⟨_, _, _, _, _, _⟩) (v := ?_) rfl (by kernel_rfl) (by kernel_rfl) (by kernel_rfl) (fun _ _ _ h => h) (Or.inl ⟨by rfl, ?_⟩) hHeld ?_
      rotate_left
      · (intro w hSw; (try dsimp only at hSw); go_simp; try (with_reducible rfl))
      try simp only [Act.put, List.setIfInBounds_toArray, List.set_cons_zero, List.set_cons_succ]
      refine wpAnyH_take (i := 27) (oi := ⟨_, _, _, _, _, _⟩) (v := ?_) rfl (by kernel_rfl) (by kernel_rfl) (by kernel_rfl) (fun _ _ _ h => h) (Or.inl ⟨by rfl, ?_⟩) hHeld ?_
      rotate_left
      · (intro w hSw; (try dsimp only at hSw); go_simp; try (with_reducible rfl))
      try simp only [Act.put, List.setIfInBounds_toArray, List.set_cons_zero, List.set_cons_succ]
      refine cut4 (C := fun (a0 : Int) (a1 : Int) (b0 : Int) (b1 : Int) (Wc13_1 : World) => (r.cap.lo ≤ a0 ∧ a0 ≤ a1 ∧ a1 ≤ r.cap.hi) ∧ (r.leak.lo ≤ b0 ∧ b0 ≤ b1 ∧ b1 ≤ r.leak.hi) ∧ Below Wd13.heap.size Wd13 Wc13_1 ∧ Kept (fun b => b ≠ q) wr Wc13_1) (G := ?_) ?_ ?_
      rotate_left
      · intro hCut
        replace hbc := Below.refl Wd13.heap.size Wd13
        refine wpAnyH_ready (rs := [7, 15, 24]) (by kernel_rfl) (by simp) ?_
        refine AllReadyH.cons (o := ⟨_, _, _, _, _, _⟩) rfl (fun K hK => ?_) ?_
        ·
          obtain ⟨⟨z0, z1, z2, z3, z4, z5⟩, _⟩ := own_rc6 OB Hxk.out Hnd.out
          go_simp
          clear z0 z1 z2 z3 z4 z5
          have hHeldN := hHeld
          refine hK.out _ _ ?_ (fun hHeld2 => ?_)
          · exact hHeldN
          clear hK K hHeldN; have hHeld := hHeld2; clear hHeld2
          try simp only [Act.put, List.setIfInBounds_toArray, List.set_cons_zero, List.set_cons_succ]
          refine wpAnyH_ready (rs := [10, 15, 24]) (by kernel_rfl) (by simp) ?_
          refine AllReadyH.cons (o := ⟨_, _, _, _, _, _⟩) rfl (fun K hK => ?_) ?_
          ·
            go_simp
            refine (part_any _ _ _ B nb cb b11 bys _ u1.1 u1.2.1 u1.2.2 (by omega) (by omega) Hnb.out hnb2 H32.out rby x11).mono ?_
            rintro e V87 ⟨a0, a1, rfl, ha0, hb⟩
            go_wp2_with fail
            have hHeldN := hHeld.trans (Kept.all _ hb)
            have OB := OB.bel hb
            have rby := rby.bel hb
            have x11 := x11.bel hb
            have hbc := hbc.trans (hb.mono hbc.size)
            refine hK.out _ _ ?_ (fun hHeld2 => ?_)
            · exact hHeldN
            clear hK K hHeldN hb; have hHeld := hHeld2; clear hHeld2
            try simp only [Act.put, List.setIfInBounds_toArray, List.set_cons_zero, List.set_cons_succ]
            refine wpAnyH_ready (rs := [15, 24]) (by kernel_rfl) (by simp) ?_
            refine AllReadyH.cons (o := ⟨_, _, _, _, _, _⟩) rfl (fun K hK => ?_) ?_
            ·
              obtain ⟨⟨z0, z1, z2, z3, z4, z5⟩, _⟩ := own_rc6 OB Hxk.out Hnd.out
              go_simp
              clear z0 z1 z2 z3 z4 z5
              have hHeldN := hHeld
              refine hK.out _ _ ?_ (fun hHeld2 => ?_)
              · exact hHeldN
              clear hK K hHeldN; have hHeld := hHeld2; clear hHeld2
              try simp only [Act.put, List.setIfInBounds_toArray, List.set_cons_zero, List.set_cons_succ]
              refine wpAnyH_ready (rs := [19, 24]) (by kernel_rfl) (by simp) ?_
              refine AllReadyH.cons (o := ⟨_, _, _, _, _, _⟩) rfl (fun K hK => ?_) ?_
              ·
                go_simp
                refine (part_any _ _ _ B nb cb b11 bys _ u2.1 u2.2.1 u2.2.2 (by omega) (by omega) Hnb.out hnb2 H32.out rby x11).mono ?_
                rintro e V96 ⟨b0, b1, rfl, hb0, hb⟩
                go_wp2_with fail
                have hHeldN := hHeld.trans (Kept.all _ hb)
                have OB := OB.bel hb
                have rby := rby.bel hb
                have x11 := x11.bel hb
                have hbc := hbc.trans (hb.mono hbc.size)
                refine hK.out _ _ ?_ (fun hHeld2 => ?_)
                · exact hHeldN
                clear hK K hHeldN hb; have hHeld := hHeld2; clear hHeld2
                try simp only [Act.put, List.setIfInBounds_toArray, List.set_cons_zero, List.set_cons_succ]
                refine wpAnyH_ready (rs := [24]) (by kernel_rfl) (by simp) ?_
                refine AllReadyH.cons (o := ⟨_, _, _, _, _, _⟩) rfl (fun K hK => ?_) AllReadyH.nil
                obtain ⟨⟨z0, z1, z2, z3, z4, z5⟩, _⟩ := own_rc6 OB Hxk.out Hnd.out
                go_simp
                clear z0 z1 z2 z3 z4 z5
                have hHeldN := hHeld
                refine hK.out _ _ ?_ (fun hHeld2 => ?_)
                · exact hHeldN
                clear hK K hHeldN; have hHeld := hHeld2; clear hHeld2
                try simp only [Act.put, List.setIfInBounds_toArray, List.set_cons_zero, List.set_cons_succ]
                exact hCut a0 a1 b0 b1 V96 ⟨ha0, hb0, hbc, hHeld⟩
              refine AllReadyH.cons (o := ⟨_, _, _, _, _, _⟩) rfl (fun K hK => ?_) AllReadyH.nil
              obtain ⟨⟨z0, z1, z2, z3, z4, z5⟩, _⟩ := own_rc6 OB Hxk.out Hnd.out
              go_simp
              clear z0 z1 z2 z3 z4 z5
              have hHeldN := hHeld
              refine hK.out _ _ ?_ (fun hHeld2 => ?_)
              · exact hHeldN
              clear hK K hHeldN; have hHeld := hHeld2; clear hHeld2
              try simp only [Act.put, List.setIfInBounds_toArray, List.set_cons_zero, List.set_cons_succ]
              refine wpAnyH_ready (rs := [19]) (by kernel_rfl) (by simp) ?_
              refine AllReadyH.cons (o := ⟨_, _, _, _, _, _⟩) rfl (fun K hK => ?_) AllReadyH.nil
              go_simp
              refine (part_any _ _ _ B nb cb b11 bys _ u2.1 u2.2.1 u2.2.2 (by omega) (by omega) Hnb.out hnb2 H32.out rby x11).mono ?_
              rintro e V96 ⟨b0, b1, rfl, hb0, hb⟩
              go_wp2_with fail
              have hHeldN := hHeld.trans (Kept.all _ hb)
              have OB := OB.bel hb
              have rby := rby.bel hb
              have x11 := x11.bel hb
              have hbc := hbc.trans (hb.mono hbc.size)
              refine hK.out _ _ ?_ (fun hHeld2 => ?_)
              · exact hHeldN
              clear hK K hHeldN hb; have hHeld := hHeld2; clear hHeld2
              try simp only [Act.put, List.setIfInBounds_toArray, List.set_cons_zero, List.set_cons_succ]
              exact hCut a0 a1 b0 b1 V96 ⟨ha0, hb0, hbc, hHeld⟩
            refine AllReadyH.cons (o := ⟨_, _, _, _, _, _⟩) rfl (fun K hK => ?_) AllReadyH.nil
            obtain ⟨⟨z0, z1, z2, z3, z4, z5⟩, _⟩ := own_rc6 OB Hxk.out Hnd.out
            go_simp
            clear z0 z1 z2 z3 z4 z5
            have hHeldN := hHeld
            refine hK.out _ _ ?_ (fun hHeld2 => ?_)
            · exact hHeldN
            clear hK K hHeldN; have hHeld := hHeld2; clear hHeld2
            try simp only [Act.put, List.setIfInBounds_toArray, List.set_cons_zero, List.set_cons_succ]
            refine wpAnyH_ready (rs := [15]) (by kernel_rfl) (by simp) ?_
            refine AllReadyH.cons (o := ⟨_, _, _, _, _, _⟩) rfl (fun K hK => ?_) AllReadyH.nil
            obtain ⟨⟨z0, z1, z2, z3, z4, z5⟩, _⟩ := own_rc6 OB Hxk.out Hnd.out
            go_simp
            clear z0 z1 z2 z3 z4 z5
            have hHeldN := hHeld
            refine hK.out _ _ ?_ (fun hHeld2 => ?_)
            · exact hHeldN
            clear hK K hHeldN; have hHeld := hHeld2; clear hHeld2
            try simp only [Act.put, List.setIfInBounds_toArray, List.set_cons_zero, List.set_cons_succ]
            refine wpAnyH_ready (rs := [19]) (by kernel_rfl) (by simp) ?_
            refine AllReadyH.cons (o := ⟨_, _, _, _, _, _⟩) rfl (fun K hK => ?_) AllReadyH.nil
            go_simp
            refine (part_any _ _ _ B nb cb b11 bys _ u2.1 u2.2.1 u2.2.2 (by omega) (by omega) Hnb.out hnb2 H32.out rby x11).mono ?_
            rintro e V96 ⟨b0, b1, rfl, hb0, hb⟩
            go_wp2_with fail
            have hHeldN := hHeld.trans (Kept.all _ hb)
            have OB := OB.bel hb
            have rby := rby.bel hb
            have x11 := x11.bel hb
            have hbc := hbc.trans (hb.mono hbc.size)
            refine hK.out _ _ ?_ (fun hHeld2 => ?_)
            · exact hHeldN
            clear hK K hHeldN hb; have hHeld := hHeld2; clear hHeld2
            try simp only [Act.put, List.setIfInBounds_toArray, List.set_cons_zero, List.set_cons_succ]
            exact hCut a0 a1 b0 b1 V96 ⟨ha0, hb0, hbc, hHeld⟩
          refine AllReadyH.cons (o := ⟨_, _, _, _, _, _⟩) rfl (fun K hK => ?_) ?_
          ·
            obtain ⟨⟨z0, z1, z2, z3, z4, z5⟩, _⟩ := own_rc6 OB Hxk.out Hnd.out
            go_simp
            clear z0 z1 z2 z3 z4 z5
            have hHeldN := hHeld
            refine hK.out _ _ ?_ (fun hHeld2 => ?_)
            · exact hHeldN
            clear hK K hHeldN; have hHeld := hHeld2; clear hHeld2
            try simp only [Act.put, List.setIfInBounds_toArray, List.set_cons_zero, List.set_cons_succ]
            refine wpAnyH_ready (rs := [10, 24]) (by kernel_rfl) (by simp) ?_
            refine AllReadyH.cons (o := ⟨_, _, _, _, _, _⟩) rfl (fun K hK => ?_) ?_
            ·
              go_simp
              refine (part_any _ _ _ B nb cb b11 bys _ u1.1 u1.2.1 u1.2.2 (by omega) (by omega) Hnb.out hnb2 H32.out rby x11).mono ?_
              rintro e V87 ⟨a0, a1, rfl, ha0, hb⟩
              go_wp2_with fail
              have hHeldN := hHeld.trans (Kept.all _ hb)
              have OB := OB.bel hb
              have rby := rby.bel hb
              have x11 := x11.bel hb
              have hbc := hbc.trans (hb.mono hbc.size)
              refine hK.out _ _ ?_ (fun hHeld2 => ?_)
              · exact hHeldN
              clear hK K hHeldN hb; have hHeld := hHeld2; clear hHeld2
              try simp only [Act.put, List.setIfInBounds_toArray, List.set_cons_zero, List.set_cons_succ]
              refine wpAnyH_ready (rs := [19, 24]) (by kernel_rfl) (by simp) ?_
              refine AllReadyH.cons (o := ⟨_, _, _, _, _, _⟩) rfl (fun K hK => ?_) ?_
              ·
                go_simp
                refine (part_any _ _ _ B nb cb b11 bys _ u2.1 u2.2.1 u2.2.2 (by omega) (by omega) Hnb.out hnb2 H32.out rby x11).mono ?_
                rintro e V96 ⟨b0, b1, rfl, hb0, hb⟩
                go_wp2_with fail
                have hHeldN := hHeld.trans (Kept.all _ hb)
                have OB := OB.bel hb
                have rby := rby.bel hb
                have x11 := x11.bel hb
                have hbc := hbc.trans (hb.mono hbc.size)
                refine hK.out _ _ ?_ (fun hHeld2 => ?_)
                · exact hHeldN
                clear hK K hHeldN hb; have hHeld := hHeld2; clear hHeld2
                try simp only [Act.put, List.setIfInBounds_toArray, List.set_cons_zero, List.set_cons_succ]
                refine wpAnyH_ready (rs := [24]) (by kernel_rfl) (by simp) ?_
                refine AllReadyH.cons (o := ⟨_, _, _, _, _, _⟩) rfl (fun K hK => ?_) AllReadyH.nil
                obtain ⟨⟨z0, z1, z2, z3, z4, z5⟩, _⟩ := own_rc6 OB Hxk.out Hnd.out
                go_simp
                clear z0 z1 z2 z3 z4 z5
                have hHeldN := hHeld
                refine hK.out _ _ ?_ (fun hHeld2 => ?_)
                · exact hHeldN
                clear hK K hHeldN; have hHeld := hHeld2; clear hHeld2
                try simp only [Act.put, List.setIfInBounds_toArray, List.set_cons_zero, List.set_cons_succ]
                exact hCut a0 a1 b0 b1 V96 ⟨ha0, hb0, hbc, hHeld⟩
              refine AllReadyH.cons (o := ⟨_, _, _, _, _, _⟩) rfl (fun K hK => ?_) AllReadyH.nil
              obtain ⟨⟨z0, z1, z2, z3, z4, z5⟩, _⟩ := own_rc6 OB Hxk.out Hnd.out
              go_simp
              clear z0 z1 z2 z3 z4 z5
              have hHeldN := hHeld
              refine hK.out _ _ ?_ (fun hHeld2 => ?_)
              · exact hHeldN
              clear hK K hHeldN; have hHeld := hHeld2; clear hHeld2
              try simp only [Act.put, List.setIfInBounds_toArray, List.set_cons_zero, List.set_cons_succ]
              refine wpAnyH_ready (rs := [19]) (by kernel_rfl) (by simp) ?_
              refine AllReadyH.cons (o := ⟨_, _, _, _, _, _⟩) rfl (fun K hK => ?_) AllReadyH.nil
              go_simp
              refine (part_any _ _ _ B nb cb b11 bys _ u2.1 u2.2.1 u2.2.2 (by omega) (by omega) Hnb.out hnb2 H32.out rby x11).mono ?_
              rintro e V96 ⟨b0, b1, rfl, hb0, hb⟩
              go_wp2_with fail
              have hHeldN := hHeld.trans (Kept.all _ hb)
              have OB := OB.bel hb
              have rby := rby.bel hb
              have x11 := x11.bel hb
              have hbc := hbc.trans (hb.mono hbc.size)
              refine hK.out _ _ ?_ (fun hHeld2 => ?_)
              · exact hHeldN
              clear hK K hHeldN hb; have hHeld := hHeld2; clear hHeld2
              try simp only [Act.put, List.setIfInBounds_toArray, List.set_cons_zero, List.set_cons_succ]
              exact hCut a0 a1 b0 b1 V96 ⟨ha0, hb0, hbc, hHeld⟩
            refine AllReadyH.cons (o := ⟨_, _, _, _, _, _⟩) rfl (fun K hK => ?_) AllReadyH.nil
            obtain ⟨⟨z0, z1, z2, z3, z4, z5⟩, _⟩ := own_rc6 OB Hxk.out Hnd.out
            go_simp
            clear z0 z1 z2 z3 z4 z5
            have hHeldN := hHeld
            refine hK.out _ _ ?_ (fun hHeld2 => ?_)
            · exact hHeldN
            clear hK K hHeldN; have hHeld := hHeld2; clear hHeld2
            try simp only [Act.put, List.setIfInBounds_toArray, List.set_cons_zero, List.set_cons_succ]
            refine wpAnyH_ready (rs := [10]) (by kernel_rfl) (by simp) ?_
            refine AllReadyH.cons (o := ⟨_, _, _, _, _, _⟩) rfl (fun K hK => ?_) AllReadyH.nil
            go_simp
            refine (part_any _ _ _ B nb cb b11 bys _ u1.1 u1.2.1 u1.2.2 (by omega) (by omega) Hnb.out hnb2 H32.out rby x11).mono ?_
            rintro e V87 ⟨a0, a1, rfl, ha0, hb⟩
            go_wp2_with fail
            have hHeldN := hHeld.trans (Kept.all _ hb)
            have OB := OB.bel hb
            have rby := rby.bel hb
            have x11 := x11.bel hb
            have hbc := hbc.trans (hb.mono hbc.size)
            refine hK.out _ _ ?_ (fun hHeld2 => ?_)
            · exact hHeldN
            clear hK K hHeldN hb; have hHeld := hHeld2; clear hHeld2
            try simp only [Act.put, List.setIfInBounds_toArray, List.set_cons_zero, List.set_cons_succ]
            refine wpAnyH_ready (rs := [19]) (by kernel_rfl) (by simp) ?_
            refine AllReadyH.cons (o := ⟨_, _, _, _, _, _⟩) rfl (fun K hK => ?_) AllReadyH.nil
            go_simp
            refine (part_any _ _ _ B nb cb b11 bys _ u2.1 u2.2.1 u2.2.2 (by omega) (by omega) Hnb.out hnb2 H32.out rby x11).mono ?_
            rintro e V96 ⟨b0, b1, rfl, hb0, hb⟩
            go_wp2_with fail
            have hHeldN := hHeld.trans (Kept.all _ hb)
            have OB := OB.bel hb
            have rby := rby.bel hb
            have x11 := x11.bel hb
            have hbc := hbc.trans (hb.mono hbc.size)
            refine hK.out _ _ ?_ (fun hHeld2 => ?_)
            · exact hHeldN
            clear hK K hHeldN hb; have hHeld := hHeld2; clear hHeld2
            try simp only [Act.put, List.setIfInBounds_toArray, List.set_cons_zero, List.set_cons_succ]
            exact hCut a0 a1 b0 b1 V96 ⟨ha0, hb0, hbc, hHeld⟩
          refine AllReadyH.cons (o := ⟨_, _, _, _, _, _⟩) rfl (fun K hK => ?_) AllReadyH.nil
          obtain ⟨⟨z0, z1, z2, z3, z4, z5⟩, _⟩ := own_rc6 OB Hxk.out Hnd.out
          go_simp
          clear z0 z1 z2 z3 z4 z5
          have hHeldN := hHeld
          refine hK.out _ _ ?_ (fun hHeld2 => ?_)
          · exact hHeldN
          clear hK K hHeldN; have hHeld := hHeld2; clear hHeld2
          try simp only [Act.put, List.setIfInBounds_toArray, List.set_cons_zero, List.set_cons_succ]
          refine wpAnyH_ready (rs := [10, 15]) (by kernel_rfl) (by simp) ?_
          refine AllReadyH.cons (o := ⟨_, _, _, _, _, _⟩) rfl (fun K hK => ?_) ?_
          ·
            go_simp
            refine (part_any _ _ _ B nb cb b11 bys _ u1.1 u1.2.1 u1.2.2 (by omega) (by omega) Hnb.out hnb2 H32.out rby x11).mono ?_
            rintro e V87 ⟨a0, a1, rfl, ha0, hb⟩
            go_wp2_with fail
            have hHeldN := hHeld.trans (Kept.all _ hb)
            have OB := OB.bel hb
            have rby := rby.bel hb
            have x11 := x11.bel hb
            have hbc := hbc.trans (hb.mono hbc.size)
            refine hK.out _ _ ?_ (fun hHeld2 => ?_)
            · exact hHeldN
            clear hK K hHeldN hb; have hHeld := hHeld2; clear hHeld2
            try simp only [Act.put, List.setIfInBounds_toArray, List.set_cons_zero, List.set_cons_succ]
            refine wpAnyH_ready (rs := [15]) (by kernel_rfl) (by simp) ?_
            refine AllReadyH.cons (o := ⟨_, _, _, _, _, _⟩) rfl (fun K hK => ?_) AllReadyH.nil
            obtain ⟨⟨z0, z1, z2, z3, z4, z5⟩, _⟩ := own_rc6 OB Hxk.out Hnd.out
            go_simp
            clear z0 z1 z2 z3 z4 z5
            have hHeldN := hHeld
            refine hK.out _ _ ?_ (fun hHeld2 => ?_)
            · exact hHeldN
            clear hK K hHeldN; have hHeld := hHeld2; clear hHeld2
            try simp only [Act.put, List.setIfInBounds_toArray, List.set_cons_zero, List.set_cons_succ]
            refine wpAnyH_ready (rs := [19]) (by kernel_rfl) (by simp) ?_
            refine AllReadyH.cons (o := ⟨_, _, _, _, _, _⟩) rfl (fun K hK => ?_) AllReadyH.nil
            go_simp
            refine (part_any _ _ _ B nb cb b11 bys _ u2.1 u2.2.1 u2.2.2 (by omega) (by omega) Hnb.out hnb2 H32.out rby x11).mono ?_
            rintro e V96 ⟨b0, b1, rfl, hb0, hb⟩
            go_wp2_with fail
            have hHeldN := hHeld.trans (Kept.all _ hb)
            have OB := OB.bel hb
            have rby := rby.bel hb
            have x11 := x11.bel hb
            have hbc := hbc.trans (hb.mono hbc.size)
            refine hK.out _ _ ?_ (fun hHeld2 => ?_)
            · exact hHeldN
            clear hK K hHeldN hb; have hHeld := hHeld2; clear hHeld2
            try simp only [Act.put, List.setIfInBounds_toArray, List.set_cons_zero, List.set_cons_succ]
            exact hCut a0 a1 b0 b1 V96 ⟨ha0, hb0, hbc, hHeld⟩
          refine AllReadyH.cons (o := ⟨_, _, _, _, _, _⟩) rfl (fun K hK => ?_) AllReadyH.nil
          obtain ⟨⟨z0, z1, z2, z3, z4, z5⟩, _⟩ := own_rc6 OB Hxk.out Hnd.out
          go_simp
          clear z0 z1 z2 z3 z4 z5
          have hHeldN := hHeld
          refine hK.out _ _ ?_ (fun hHeld2 => ?_)
          · exact hHeldN
          clear hK K hHeldN; have hHeld := hHeld2; clear hHeld2
          try simp only [Act.put, List.setIfInBounds_toArray, List.set_cons_zero, List.set_cons_succ]
          refine wpAnyH_ready (rs := [10]) (by kernel_rfl) (by simp) ?_
          refine AllReadyH.cons (o := ⟨_, _, _, _, _, _⟩) rfl (fun K hK => ?_) AllReadyH.nil
          go_simp
          refine (part_any _ _ _ B nb cb b11 bys _ u1.1 u1.2.1 u1.2.2 (by omega) (by omega) Hnb.out hnb2 H32.out rby x11).mono ?_
          rintro e V87 ⟨a0, a1, rfl, ha0, hb⟩
          go_wp2_with fail
          have hHeldN := hHeld.trans (Kept.all _ hb)
          have OB := OB.bel hb
          have rby := rby.bel hb
          have x11 := x11.bel hb
          have hbc := hbc.trans (hb.mono hbc.size)
          refine hK.out _ _ ?_ (fun hHeld2 => ?_)
          · exact hHeldN
          clear hK K hHeldN hb; have hHeld := hHeld2; clear hHeld2
          try simp only [Act.put, List.setIfInBounds_toArray, List.set_cons_zero, List.set_cons_succ]
          refine wpAnyH_ready (rs := [19]) (by kernel_rfl) (by simp) ?_
          refine AllReadyH.cons (o := ⟨_, _, _, _, _, _⟩) rfl (fun K hK => ?_) AllReadyH.nil
          go_simp
          refine (part_any _ _ _ B nb cb b11 bys _ u2.1 u2.2.1 u2.2.2 (by omega) (by omega) Hnb.out hnb2 H32.out rby x11).mono ?_
          rintro e V96 ⟨b0, b1, rfl, hb0, hb⟩
          go_wp2_with fail
          have hHeldN := hHeld.trans (Kept.all _ hb)
          have OB := OB.bel hb
          have rby := rby.bel hb
          have x11 := x11.bel hb
          have hbc := hbc.trans (hb.mono hbc.size)
          refine hK.out _ _ ?_ (fun hHeld2 => ?_)
          · exact hHeldN
          clear hK K hHeldN hb; have hHeld := hHeld2; clear hHeld2
          try simp only [Act.put, List.setIfInBounds_toArray, List.set_cons_zero, List.set_cons_succ]
          exact hCut a0 a1 b0 b1 V96 ⟨ha0, hb0, hbc, hHeld⟩
        refine AllReadyH.cons (o := ⟨_, _, _, _, _, _⟩) rfl (fun K hK => ?_) ?_
        ·
          obtain ⟨⟨z0, z1, z2, z3, z4, z5⟩, _⟩ := own_rc6 OB Hxk.out Hnd.out
          go_simp
          clear z0 z1 z2 z3 z4 z5
          have hHeldN := hHeld
          refine hK.out _ _ ?_ (fun hHeld2 => ?_)
          · exact hHeldN
          clear hK K hHeldN; have hHeld := hHeld2; clear hHeld2
          try simp only [Act.put, List.setIfInBounds_toArray, List.set_cons_zero, List.set_cons_succ]
          refine wpAnyH_ready (rs := [7, 24]) (by kernel_rfl) (by simp) ?_
          refine AllReadyH.cons (o := ⟨_, _, _, _, _, _⟩) rfl (fun K hK => ?_) ?_
          ·
            obtain ⟨⟨z0, z1, z2, z3, z4, z5⟩, _⟩ := own_rc6 OB Hxk.out Hnd.out
            go_simp
            clear z0 z1 z2 z3 z4 z5
            have hHeldN := hHeld
            refine hK.out _ _ ?_ (fun hHeld2 => ?_)
            · exact hHeldN
            clear hK K hHeldN; have hHeld := hHeld2; clear hHeld2
            try simp only [Act.put, List.setIfInBounds_toArray, List.set_cons_zero, List.set_cons_succ]
            refine wpAnyH_ready (rs := [10, 24]) (by kernel_rfl) (by simp) ?_
            refine AllReadyH.cons (o := ⟨_, _, _, _, _, _⟩) rfl (fun K hK => ?_) ?_
            ·
              go_simp
              refine (part_any _ _ _ B nb cb b11 bys _ u1.1 u1.2.1 u1.2.2 (by omega) (by omega) Hnb.out hnb2 H32.out rby x11).mono ?_
              rintro e V87 ⟨a0, a1, rfl, ha0, hb⟩
              go_wp2_with fail
              have hHeldN := hHeld.trans (Kept.all _ hb)
              have OB := OB.bel hb
              have rby := rby.bel hb
              have x11 := x11.bel hb
              have hbc := hbc.trans (hb.mono hbc.size)
              refine hK.out _ _ ?_ (fun hHeld2 => ?_)
              · exact hHeldN
              clear hK K hHeldN hb; have hHeld := hHeld2; clear hHeld2
              try simp only [Act.put, List.setIfInBounds_toArray, List.set_cons_zero, List.set_cons_succ]
              refine wpAnyH_ready (rs := [19, 24]) (by kernel_rfl) (by simp) ?_
              refine AllReadyH.cons (o := ⟨_, _, _, _, _, _⟩) rfl (fun K hK => ?_) ?_
              ·
                go_simp
                refine (part_any _ _ _ B nb cb b11 bys _ u2.1 u2.2.1 u2.2.2 (by omega) (by omega) Hnb.out hnb2 H32.out rby x11).mono ?_
                rintro e V96 ⟨b0, b1, rfl, hb0, hb⟩
                go_wp2_with fail
                have hHeldN := hHeld.trans (Kept.all _ hb)
                have OB := OB.bel hb
                have rby := rby.bel hb
                have x11 := x11.bel hb
                have hbc := hbc.trans (hb.mono hbc.size)
                refine hK.out _ _ ?_ (fun hHeld2 => ?_)
                · exact hHeldN
                clear hK K hHeldN hb; have hHeld := hHeld2; clear hHeld2
                try simp only [Act.put, List.setIfInBounds_toArray, List.set_cons_zero, List.set_cons_succ]
                refine wpAnyH_ready (rs := [24]) (by kernel_rfl) (by simp) ?_
                refine AllReadyH.cons (o := ⟨_, _, _, _, _, _⟩) rfl (fun K hK => ?_) AllReadyH.nil
                obtain ⟨⟨z0, z1, z2, z3, z4, z5⟩, _⟩ := own_rc6 OB Hxk.out Hnd.out
                go_simp
                clear z0 z1 z2 z3 z4 z5
                have hHeldN := hHeld
                refine hK.out _ _ ?_ (fun hHeld2 => ?_)
                · exact hHeldN
                clear hK K hHeldN; have hHeld := hHeld2; clear hHeld2
                try simp only [Act.put, List.setIfInBounds_toArray, List.set_cons_zero, List.set_cons_succ]
                exact hCut a0 a1 b0 b1 V96 ⟨ha0, hb0, hbc, hHeld⟩
              refine AllReadyH.cons (o := ⟨_, _, _, _, _, _⟩) rfl (fun K hK => ?_) AllReadyH.nil
              obtain ⟨⟨z0, z1, z2, z3, z4, z5⟩, _⟩ := own_rc6 OB Hxk.out Hnd.out
              go_simp
              clear z0 z1 z2 z3 z4 z5
              have hHeldN := hHeld
              refine hK.out _ _ ?_ (fun hHeld2 => ?_)
              · exact hHeldN
              clear hK K hHeldN; have hHeld := hHeld2; clear hHeld2
              try simp only [Act.put, List.setIfInBounds_toArray, List.set_cons_zero, List.set_cons_succ]
              refine wpAnyH_ready (rs := [19]) (by kernel_rfl) (by simp) ?_
              refine AllReadyH.cons (o := ⟨_, _, _, _, _, _⟩) rfl (fun K hK => ?_) AllReadyH.nil
              go_simp
              refine (part_any _ _ _ B nb cb b11 bys _ u2.1 u2.2.1 u2.2.2 (by omega) (by omega) Hnb.out hnb2 H32.out rby x11).mono ?_
              rintro e V96 ⟨b0, b1, rfl, hb0, hb⟩
              go_wp2_with fail
              have hHeldN := hHeld.trans (Kept.all _ hb)
              have OB := OB.bel hb
              have rby := rby.bel hb
              have x11 := x11.bel hb
              have hbc := hbc.trans (hb.mono hbc.size)
              refine hK.out _ _ ?_ (fun hHeld2 => ?_)
              · exact hHeldN
              clear hK K hHeldN hb; have hHeld := hHeld2; clear hHeld2
              try simp only [Act.put, List.setIfInBounds_toArray, List.set_cons_zero, List.set_cons_succ]
              exact hCut a0 a1 b0 b1 V96 ⟨ha0, hb0, hbc, hHeld⟩
            refine AllReadyH.cons (o := ⟨_, _, _, _, _, _⟩) rfl (fun K hK => ?_) AllReadyH.nil
            obtain ⟨⟨z0, z1, z2, z3, z4, z5⟩, _⟩ := own_rc6 OB Hxk.out Hnd.out
            go_simp
            clear z0 z1 z2 z3 z4 z5
            have hHeldN := hHeld
            refine hK.out _ _ ?_ (fun hHeld2 => ?_)
            · exact hHeldN
            clear hK K hHeldN; have hHeld := hHeld2; clear hHeld2
            try simp only [Act.put, List.setIfInBounds_toArray, List.set_cons_zero, List.set_cons_succ]
            refine wpAnyH_ready (rs := [10]) (by kernel_rfl) (by simp) ?_
            refine AllReadyH.cons (o := ⟨_, _, _, _, _, _⟩) rfl (fun K hK => ?_) AllReadyH.nil
            go_simp
            refine (part_any _ _ _ B nb cb b11 bys _ u1.1 u1.2.1 u1.2.2 (by omega) (by omega) Hnb.out hnb2 H32.out rby x11).mono ?_
            rintro e V87 ⟨a0, a1, rfl, ha0, hb⟩
            go_wp2_with fail
            have hHeldN := hHeld.trans (Kept.all _ hb)
            have OB := OB.bel hb
            have rby := rby.bel hb
            have x11 := x11.bel hb
            have hbc := hbc.trans (hb.mono hbc.size)
            refine hK.out _ _ ?_ (fun hHeld2 => ?_)
            · exact hHeldN
            clear hK K hHeldN hb; have hHeld := hHeld2; clear hHeld2
            try simp only [Act.put, List.setIfInBounds_toArray, List.set_cons_zero, List.set_cons_succ]
            refine wpAnyH_ready (rs := [19]) (by kernel_rfl) (by simp) ?_
            refine AllReadyH.cons (o := ⟨_, _, _, _, _, _⟩) rfl (fun K hK => ?_) AllReadyH.nil
            go_simp
            refine (part_any _ _ _ B nb cb b11 bys _ u2.1 u2.2.1 u2.2.2 (by omega) (by omega) Hnb.out hnb2 H32.out rby x11).mono ?_
            rintro e V96 ⟨b0, b1, rfl, hb0, hb⟩
            go_wp2_with fail
            have hHeldN := hHeld.trans (Kept.all _ hb)
            have OB := OB.bel hb
            have rby := rby.bel hb
            have x11 := x11.bel hb
            have hbc := hbc.trans (hb.mono hbc.size)
            refine hK.out _ _ ?_ (fun hHeld2 => ?_)
            · exact hHeldN
            clear hK K hHeldN hb; have hHeld := hHeld2; clear hHeld2
            try simp only [Act.put, List.setIfInBounds_toArray, List.set_cons_zero, List.set_cons_succ]
            exact hCut a0 a1 b0 b1 V96 ⟨ha0, hb0, hbc, hHeld⟩
          refine AllReadyH.cons (o := ⟨_, _, _, _, _, _⟩) rfl (fun K hK => ?_) AllReadyH.nil
          obtain ⟨⟨z0, z1, z2, z3, z4, z5⟩, _⟩ := own_rc6 OB Hxk.out Hnd.out
          go_simp
          clear z0 z1 z2 z3 z4 z5
          have hHeldN := hHeld
          refine hK.out _ _ ?_ (fun hHeld2 => ?_)
          · exact hHeldN
          clear hK K hHeldN; have hHeld := hHeld2; clear hHeld2
          try simp only [Act.put, List.setIfInBounds_toArray, List.set_cons_zero, List.set_cons_succ]
          refine wpAnyH_ready (rs := [7]) (by kernel_rfl) (by simp) ?_
          refine AllReadyH.cons (o := ⟨_, _, _, _, _, _⟩) rfl (fun K hK => ?_) AllReadyH.nil
          obtain ⟨⟨z0, z1, z2, z3, z4, z5⟩, _⟩ := own_rc6 OB Hxk.out Hnd.out
          go_simp
          clear z0 z1 z2 z3 z4 z5
          have hHeldN := hHeld
          refine hK.out _ _ ?_ (fun hHeld2 => ?_)
          · exact hHeldN
          clear hK K hHeldN; have hHeld := hHeld2; clear hHeld2
          try simp only [Act.put, List.setIfInBounds_toArray, List.set_cons_zero, List.set_cons_succ]
          refine wpAnyH_ready (rs := [10]) (by kernel_rfl) (by simp) ?_
          refine AllReadyH.cons (o := ⟨_, _, _, _, _, _⟩) rfl (fun K hK => ?_) AllReadyH.nil
          go_simp
          refine (part_any _ _ _ B nb cb b11 bys _ u1.1 u1.2.1 u1.2.2 (by omega) (by omega) Hnb.out hnb2 H32.out rby x11).mono ?_
          rintro e V87 ⟨a0, a1, rfl, ha0, hb⟩
          go_wp2_with fail
          have hHeldN := hHeld.trans (Kept.all _ hb)
          have OB := OB.bel hb
          have rby := rby.bel hb
          have x11 := x11.bel hb
          have hbc := hbc.trans (hb.mono hbc.size)
          refine hK.out _ _ ?_ (fun hHeld2 => ?_)
          · exact hHeldN
          clear hK K hHeldN hb; have hHeld := hHeld2; clear hHeld2
          try simp only [Act.put, List.setIfInBounds_toArray, List.set_cons_zero, List.set_cons_succ]
          refine wpAnyH_ready (rs := [19]) (by kernel_rfl) (by simp) ?_
          refine AllReadyH.cons (o := ⟨_, _, _, _, _, _⟩) rfl (fun K hK => ?_) AllReadyH.nil
          go_simp
          refine (part_any _ _ _ B nb cb b11 bys _ u2.1 u2.2.1 u2.2.2 (by omega) (by omega) Hnb.out hnb2 H32.out rby x11).mono ?_
          rintro e V96 ⟨b0, b1, rfl, hb0, hb⟩
          go_wp2_with fail
          have hHeldN := hHeld.trans (Kept.all _ hb)
          have OB := OB.bel hb
          have rby := rby.bel hb
          have x11 := x11.bel hb
          have hbc := hbc.trans (hb.mono hbc.size)
          refine hK.out _ _ ?_ (fun hHeld2 => ?_)
          · exact hHeldN
          clear hK K hHeldN hb; have hHeld := hHeld2; clear hHeld2
          try simp only [Act.put, List.setIfInBounds_toArray, List.set_cons_zero, List.set_cons_succ]
          exact hCut a0 a1 b0 b1 V96 ⟨ha0, hb0, hbc, hHeld⟩
        refine AllReadyH.cons (o := ⟨_, _, _, _, _, _⟩) rfl (fun K hK => ?_) AllReadyH.nil
        obtain ⟨⟨z0, z1, z2, z3, z4, z5⟩, _⟩ := own_rc6 OB Hxk.out Hnd.out
        go_simp
        clear z0 z1 z2 z3 z4 z5
        have hHeldN := hHeld
        refine hK.out _ _ ?_ (fun hHeld2 => ?_)
        · exact hHeldN
        clear hK K hHeldN; have hHeld := hHeld2; clear hHeld2
        try simp only [Act.put, List.setIfInBounds_toArray, List.set_cons_zero, List.set_cons_succ]
        refine wpAnyH_ready (rs := [7, 15]) (by kernel_rfl) (by simp) ?_
        refine AllReadyH.cons (o := ⟨_, _, _, _, _, _⟩) rfl (fun K hK => ?_) ?_
        ·
          obtain ⟨⟨z0, z1, z2, z3, z4, z5⟩, _⟩ := own_rc6 OB Hxk.out Hnd.out
          go_simp
          clear z0 z1 z2 z3 z4 z5
          have hHeldN := hHeld
          refine hK.out _ _ ?_ (fun hHeld2 => ?_)
          · exact hHeldN
          clear hK K hHeldN; have hHeld := hHeld2; clear hHeld2
          try simp only [Act.put, List.setIfInBounds_toArray, List.set_cons_zero, List.set_cons_succ]
          refine wpAnyH_ready (rs := [10, 15]) (by kernel_rfl) (by simp) ?_
          refine AllReadyH.cons (o := ⟨_, _, _, _, _, _⟩) rfl (fun K hK => ?_) ?_
          ·
            go_simp
            refine (part_any _ _ _ B nb cb b11 bys _ u1.1 u1.2.1 u1.2.2 (by omega) (by omega) Hnb.out hnb2 H32.out rby x11).mono ?_
            rintro e V87 ⟨a0, a1, rfl, ha0, hb⟩
            go_wp2_with fail
            have hHeldN := hHeld.trans (Kept.all _ hb)
            have OB := OB.bel hb
            have rby := rby.bel hb
            have x11 := x11.bel hb
            have hbc := hbc.trans (hb.mono hbc.size)
            refine hK.out _ _ ?_ (fun hHeld2 => ?_)
            · exact hHeldN
            clear hK K hHeldN hb; have hHeld := hHeld2; clear hHeld2
            try simp only [Act.put, List.setIfInBounds_toArray, List.set_cons_zero, List.set_cons_succ]
            refine wpAnyH_ready (rs := [15]) (by kernel_rfl) (by simp) ?_
            refine AllReadyH.cons (o := ⟨_, _, _, _, _, _⟩) rfl (fun K hK => ?_) AllReadyH.nil
            obtain ⟨⟨z0, z1, z2, z3, z4, z5⟩, _⟩ := own_rc6 OB Hxk.out Hnd.out
            go_simp
            clear z0 z1 z2 z3 z4 z5
            have hHeldN := hHeld
            refine hK.out _ _ ?_ (fun hHeld2 => ?_)
            · exact hHeldN
            clear hK K hHeldN; have hHeld := hHeld2; clear hHeld2
            try simp only [Act.put, List.setIfInBounds_toArray, List.set_cons_zero, List.set_cons_succ]
            refine wpAnyH_ready (rs := [19]) (by kernel_rfl) (by simp) ?_
            refine AllReadyH.cons (o := ⟨_, _, _, _, _, _⟩) rfl (fun K hK => ?_) AllReadyH.nil
            go_simp
            refine (part_any _ _ _ B nb cb b11 bys _ u2.1 u2.2.1 u2.2.2 (by omega) (by omega) Hnb.out hnb2 H32.out rby x11).mono ?_
            rintro e V96 ⟨b0, b1, rfl, hb0, hb⟩
            go_wp2_with fail
            have hHeldN := hHeld.trans (Kept.all _ hb)
            have OB := OB.bel hb
            have rby := rby.bel hb
            have x11 := x11.bel hb
            have hbc := hbc.trans (hb.mono hbc.size)
            refine hK.out _ _ ?_ (fun hHeld2 => ?_)
            · exact hHeldN
            clear hK K hHeldN hb; have hHeld := hHeld2; clear hHeld2
            try simp only [Act.put, List.setIfInBounds_toArray, List.set_cons_zero, List.set_cons_succ]
            exact hCut a0 a1 b0 b1 V96 ⟨ha0, hb0, hbc, hHeld⟩
          refine AllReadyH.cons (o := ⟨_, _, _, _, _, _⟩) rfl (fun K hK => ?_) AllReadyH.nil
          obtain ⟨⟨z0, z1, z2, z3, z4, z5⟩, _⟩ := own_rc6 OB Hxk.out Hnd.out
          go_simp
          clear z0 z1 z2 z3 z4 z5
          have hHeldN := hHeld
          refine hK.out _ _ ?_ (fun hHeld2 => ?_)
          · exact hHeldN
          clear hK K hHeldN; have hHeld := hHeld2; clear hHeld2
          try simp only [Act.put, List.setIfInBounds_toArray, List.set_cons_zero, List.set_cons_succ]
          refine wpAnyH_ready (rs := [10]) (by kernel_rfl) (by simp) ?_
          refine AllReadyH.cons (o := ⟨_, _, _, _, _, _⟩) rfl (fun K hK => ?_) AllReadyH.nil
          go_simp
          refine (part_any _ _ _ B nb cb b11 bys _ u1.1 u1.2.1 u1.2.2 (by omega) (by omega) Hnb.out hnb2 H32.out rby x11).mono ?_
          rintro e V87 ⟨a0, a1, rfl, ha0, hb⟩
          go_wp2_with fail
          have hHeldN := hHeld.trans (Kept.all _ hb)
          have OB := OB.bel hb
          have rby := rby.bel hb
          have x11 := x11.bel hb
          have hbc := hbc.trans (hb.mono hbc.size)
          refine hK.out _ _ ?_ (fun hHeld2 => ?_)
          · exact hHeldN
          clear hK K hHeldN hb; have hHeld := hHeld2; clear hHeld2
          try simp only [Act.put, List.setIfInBounds_toArray, List.set_cons_zero, List.set_cons_succ]
          refine wpAnyH_ready (rs := [19]) (by kernel_rfl) (by simp) ?_
          refine AllReadyH.cons (o := ⟨_, _, _, _, _, _⟩) rfl (fun K hK => ?_) AllReadyH.nil
          go_simp
          refine (part_any _ _ _ B nb cb b11 bys _ u2.1 u2.2.1 u2.2.2 (by omega) (by omega) Hnb.out hnb2 H32.out rby x11).mono ?_
          rintro e V96 ⟨b0, b1, rfl, hb0, hb⟩
          go_wp2_with fail
          have hHeldN := hHeld.trans (Kept.all _ hb)
          have OB := OB.bel hb
          have rby := rby.bel hb
          have x11 := x11.bel hb
          have hbc := hbc.trans (hb.mono hbc.size)
          refine hK.out _ _ ?_ (fun hHeld2 => ?_)
          · exact hHeldN
          clear hK K hHeldN hb; have hHeld := hHeld2; clear hHeld2
          try simp only [Act.put, List.setIfInBounds_toArray, List.set_cons_zero, List.set_cons_succ]
          exact hCut a0 a1 b0 b1 V96 ⟨ha0, hb0, hbc, hHeld⟩
        refine AllReadyH.cons (o := ⟨_, _, _, _, _, _⟩) rfl (fun K hK => ?_) AllReadyH.nil
        obtain ⟨⟨z0, z1, z2, z3, z4, z5⟩, _⟩ := own_rc6 OB Hxk.out Hnd.out
        go_simp
        clear z0 z1 z2 z3 z4 z5
        have hHeldN := hHeld
        refine hK.out _ _ ?_ (fun hHeld2 => ?_)
        · exact hHeldN
        clear hK K hHeldN; have hHeld := hHeld2; clear hHeld2
        try simp only [Act.put, List.setIfInBounds_toArray, List.set_cons_zero, List.set_cons_succ]
        refine wpAnyH_ready (rs := [7]) (by kernel_rfl) (by simp) ?_
        refine AllReadyH.cons (o := ⟨_, _, _, _, _, _⟩) rfl (fun K hK => ?_) AllReadyH.nil
        obtain ⟨⟨z0, z1, z2, z3, z4, z5⟩, _⟩ := own_rc6 OB Hxk.out Hnd.out
        go_simp
        clear z0 z1 z2 z3 z4 z5
        have hHeldN := hHeld
        refine hK.out _ _ ?_ (fun hHeld2 => ?_)
        · exact hHeldN
        clear hK K hHeldN; have hHeld := hHeld2; clear hHeld2
        try simp only [Act.put, List.setIfInBounds_toArray, List.set_cons_zero, List.set_cons_succ]
        refine wpAnyH_ready (rs := [10]) (by kernel_rfl) (by simp) ?_
        refine AllReadyH.cons (o := ⟨_, _, _, _, _, _⟩) rfl (fun K hK => ?_) AllReadyH.nil
        go_simp
        refine (part_any _ _ _ B nb cb b11 bys _ u1.1 u1.2.1 u1.2.2 (by omega) (by omega) Hnb.out hnb2 H32.out rby x11).mono ?_
        rintro e V87 ⟨a0, a1, rfl, ha0, hb⟩
        go_wp2_with fail
        have hHeldN := hHeld.trans (Kept.all _ hb)
        have OB := OB.bel hb
        have rby := rby.bel hb
        have x11 := x11.bel hb
        have hbc := hbc.trans (hb.mono hbc.size)
        refine hK.out _ _ ?_ (fun hHeld2 => ?_)
        · exact hHeldN
        clear hK K hHeldN hb; have hHeld := hHeld2; clear hHeld2
        try simp only [Act.put, List.setIfInBounds_toArray, List.set_cons_zero, List.set_cons_succ]
        refine wpAnyH_ready (rs := [19]) (by kernel_rfl) (by simp) ?_
        refine AllReadyH.cons (o := ⟨_, _, _, _, _, _⟩) rfl (fun K hK => ?_) AllReadyH.nil
        go_simp
        refine (part_any _ _ _ B nb cb b11 bys _ u2.1 u2.2.1 u2.2.2 (by omega) (by omega) Hnb.out hnb2 H32.out rby x11).mono ?_
        rintro e V96 ⟨b0, b1, rfl, hb0, hb⟩
        go_wp2_with fail
        have hHeldN := hHeld.trans (Kept.all _ hb)
        have OB := OB.bel hb
        have rby := rby.bel hb
        have x11 := x11.bel hb
        have hbc := hbc.trans (hb.mono hbc.size)
        refine hK.out _ _ ?_ (fun hHeld2 => ?_)
        · exact hHeldN
        clear hK K hHeldN hb; have hHeld := hHeld2; clear hHeld2
        try simp only [Act.put, List.setIfInBounds_toArray, List.set_cons_zero, List.set_cons_succ]
        exact hCut a0 a1 b0 b1 V96 ⟨ha0, hb0, hbc, hHeld⟩
      intro a0 a1 b0 b1 Wc13_1 ⟨ha0, hb0, hbN, hHeldN⟩
      have OB := OB.bel hbN
      have rby := rby.bel hbN
      have x11 := x11.bel hbN
      have hbc := hbc.trans (hbN.mono hbc.size); clear hHeld hbN; have hHeld := hHeldN; clear hHeldN
      refine wpAnyH_ready (rs := [28]) (by kernel_rfl) (by simp) ?_
      refine AllReadyH.cons (o := ⟨_, _, _, _, _, _⟩) rfl (fun K hK => ?_) AllReadyH.nil
      go_simp
      refine (part_any _ _ _ B nb cb b11 bys _ u3.1 u3.2.1 u3.2.2 (by omega) (by omega) Hnb.out hnb2 H32.out rby x11).mono ?_
      rintro e V105 ⟨c0, c1, rfl, hc0, hb⟩
      go_wp2_with fail
      have hHeldN := hHeld.trans (Kept.all _ hb)
      have OB := OB.bel hb
      have rby := rby.bel hb
      have x11 := x11.bel hb
      have hbc := hbc.trans (hb.mono hbc.size)
      refine hK.out _ _ ?_ (fun hHeld2 => ?_)
      · exact hHeldN
      clear hK K hHeld hHeldN hb; have hHeld := hHeld2; clear hHeld2
      try simp only [Act.put, List.setIfInBounds_toArray, List.set_cons_zero, List.set_cons_succ]
      refine wpAnyH_take (i := 29) (oi := ⟨_, _, _, _, _, _⟩) (v := ?_) rfl (by kernel_rfl) (by kernel_rfl) (by kernel_rfl) (fun _ _ _ h => h) (Or.inl ⟨by rfl, ?_⟩) hHeld ?_
      rotate_left
      · (intro w hSw; (try dsimp only at hSw); go_simp; try (with_reducible rfl))
      try simp only [Act.put, List.setIfInBounds_toArray, List.set_cons_zero, List.set_cons_succ]
      refine wpAnyH_take (i := 30) (oi := ⟨_, _, _, _, _, _⟩) (v := ?_) rfl (by kernel_rfl) (by kernel_rfl) (by kernel_rfl) (fun _ _ _ h => h) (Or.inl ⟨by rfl, ?_⟩) hHeld ?_
      rotate_left
      · (intro w hSw; (try dsimp only at hSw); go_simp; try (with_reducible rfl))
      try simp only [Act.put, List.setIfInBounds_toArray, List.set_cons_zero, List.set_cons_succ]
      refine wpAnyH_ready (rs := [31]) (by kernel_rfl) (by simp) ?_
      refine AllReadyH.cons (o := ⟨_, _, _, _, _, _⟩) rfl (fun K hK => ?_) AllReadyH.nil
      obtain ⟨⟨z0, z1, z2, z3, z4, z5⟩, fz⟩ := own_rc6 OB Hxk.out Hnd.out
      have f0 := fz (k * 6)
      have f1 := fz (k * 6 + 1)
      clear fz
      go_simp
      clear z0 z1 z2 z3 z4 z5 f0 f1
      refine hK.out _ _ ?_ (fun hHeld2 => ?_)
      · (try dsimp only); exact (hHeld.trans (Kept.setCell _ ⟨q, k * 6, none⟩ _)).trans (Kept.setCell _ ⟨q, k * 6 + 1, none⟩ _)
      clear hK K hHeld; have hHeld := hHeld2; clear hHeld2
      try simp only [Act.put, List.setIfInBounds_toArray, List.set_cons_zero, List.set_cons_succ]
      refine wpAnyH_take (i := 32) (oi := ⟨_, _, _, _, _, _⟩) (v := ?_) rfl (by kernel_rfl) (by kernel_rfl) (by kernel_rfl) (fun _ _ _ h => h) (Or.inl ⟨by rfl, ?_⟩) hHeld ?_
      rotate_left
      · (intro w hSw; (try dsimp only at hSw); go_simp; try (with_reducible rfl))
      try simp only [Act.put, List.setIfInBounds_toArray, List.set_cons_zero, List.set_cons_succ]
      refine wpAnyH_take (i := 33) (oi := ⟨_, _, _, _, _, _⟩) (v := ?_) rfl (by kernel_rfl) (by kernel_rfl) (by kernel_rfl) (fun _ _ _ h => h) (Or.inl ⟨by rfl, ?_⟩) hHeld ?_
      rotate_left
      · (intro w hSw; (try dsimp only at hSw); go_simp; try (with_reducible rfl))
      try simp only [Act.put, List.setIfInBounds_toArray, List.set_cons_zero, List.set_cons_succ]
      refine wpAnyH_ready (rs := [34]) (by kernel_rfl) (by simp) ?_
      refine AllReadyH.cons (o := ⟨_, _, _, _, _, _⟩) rfl (fun K hK => ?_) AllReadyH.nil
      have OB2 := (own_cap OB Hxk.out ⟨a0, a1⟩ Hnd.out).1
      have hk2 : (D.set k ⟨⟨a0, a1⟩, r.leak, r.gain⟩)[k]? = some ⟨⟨a0, a1⟩, r.leak, r.gain⟩ := List.getElem?_set_self (by rw [← Hnd.out]; exact hlt)
      obtain ⟨⟨z0, z1, z2, z3, z4, z5⟩, fz⟩ := own_rc6 OB2 hk2 (Hnd2.out _)
      have f0 := fz (k * 6 + 2)
      have f1 := fz (k * 6 + 3)
      clear fz
      go_simp
      clear z0 z1 z2 z3 z4 z5 f0 f1
      refine hK.out _ _ ?_ (fun hHeld2 => ?_)
      · (try dsimp only); exact (hHeld.trans (Kept.setCell _ ⟨q, k * 6 + 2, none⟩ _)).trans (Kept.setCell _ ⟨q, k * 6 + 3, none⟩ _)
      clear hK K hHeld; have hHeld := hHeld2; clear hHeld2
      try simp only [Act.put, List.setIfInBounds_toArray, List.set_cons_zero, List.set_cons_succ]
      refine wpAnyH_take (i := 35) (oi := ⟨_, _, _, _, _, _⟩) (v := ?_) rfl (by kernel_rfl) (by kernel_rfl) (by kernel_rfl) (fun _ _ _ h => h) (Or.inl ⟨by rfl, ?_⟩) hHeld ?_
      rotate_left
      · (intro w hSw; (try dsimp only at hSw); go_simp; try (with_reducible rfl))
      try simp only [Act.put, List.setIfInBounds_toArray, List.set_cons_zero, List.set_cons_succ]
      refine wpAnyH_take (i := 36) (oi := ⟨_, _, _, _, _, _⟩) (v := ?_) rfl (by kernel_rfl) (by kernel_rfl) (by kernel_rfl) (fun _ _ _ h => h) (Or.inl ⟨by rfl, ?_⟩) hHeld ?_
      rotate_left
      · (intro w hSw; (try dsimp only at hSw); go_simp; try (with_reducible rfl))
      try simp only [Act.put, List.setIfInBounds_toArray, List.set_cons_zero, List.set_cons_succ]
      refine wpAnyH_ready (rs := [37]) (by kernel_rfl) (by simp) ?_
      refine AllReadyH.cons (o := ⟨_, _, _, _, _, _⟩) rfl (fun K hK => ?_) AllReadyH.nil
      have OB3 := own_leak OB2 hk2 b0 b1 (Hnd2.out _)
      rw [List.set_set] at OB3
      have hk3 : (D.set k ⟨⟨a0, a1⟩, ⟨b0, b1⟩, r.gain⟩)[k]? = some ⟨⟨a0, a1⟩, ⟨b0, b1⟩, r.gain⟩ := List.getElem?_set_self (by rw [← Hnd.out]; exact hlt)
      obtain ⟨⟨z0, z1, z2, z3, z4, z5⟩, fz⟩ := own_rc6 OB3 hk3 (Hnd2.out _)
      have f0 := fz (k * 6 + 4)
      have f1 := fz (k * 6 + 5)
      clear fz
      go_simp
      clear z0 z1 z2 z3 z4 z5 f0 f1
      refine hK.out _ _ ?_ (fun _ => ?_)
      · (try dsimp only); exact (hHeld.trans (Kept.setCell _ ⟨q, k * 6 + 4, none⟩ _)).trans (Kept.setCell _ ⟨q, k * 6 + 5, none⟩ _)
      clear hK K hHeld
      try simp only [Act.put, List.setIfInBounds_toArray, List.set_cons_zero, List.set_cons_succ]
      refine wpAnyH_done (by kernel_rfl) ?_ _
      have OB6 := own_lay OB Hxk.out a0 a1 b0 b1 c0 c1 Hnd.out
      have hbV := (Hb.out.trans (hdr.mono Hb.out.size)).trans (hbc.mono (Hb.out.trans (hdr.mono Hb.out.size)).size)
      have hbF := (((((hbV.setCell (p := ⟨q, k * 6, none⟩) hq1 (.int .i64 a0)).setCell (p := ⟨q, k * 6 + 1, none⟩) hq1 (.int .i64 a1)).setCell (p := ⟨q, k * 6 + 2, none⟩) hq1 (.int .i64 b0)).setCell (p := ⟨q, k * 6 + 3, none⟩) hq1 (.int .i64 b1)).setCell (p := ⟨q, k * 6 + 4, none⟩) hq1 (.int .i64 c0)).setCell (p := ⟨q, k * 6 + 5, none⟩) hq1 (.int .i64 c1)
      have HB6 := hide (HD.out.set Hxk.out (y := ⟨⟨a0, a1⟩, ⟨b0, b1⟩, ⟨c0, c1⟩⟩) ⟨⟨by show 0 ≤ a0; have := u1.1; omega, ha0.2.1, by show a1 ≤ 1000000; have := u1.2.2; omega⟩, ⟨by show 0 ≤ b0; have := u2.1; omega, hb0.2.1, by show b1 ≤ 1000000; have := u2.2.2; omega⟩, ⟨by show 0 ≤ c0; have := u3.1; omega, hc0.2.1, by show c1 ≤ 1000000; have := u3.2.2; omega⟩⟩ ⟨⟨ha0.1, ha0.2.2⟩, ⟨hb0.1, hb0.2.2⟩, ⟨hc0.1, hc0.2.2⟩⟩)
      have HO6 := hide OB6; have HF6 := hide hbF
      clear OB6 hbF hbV hdr hbc OB OB2 OB3 rby x11
      go_wp2_with fail
      exact ⟨⟨k + 1, _, by omega, by go_num, HB6, HO6, HF6.out⟩, by simp [intOf]; omega⟩
    · obtain rfl : n = k := by omega
      obtain ⟨wl, rfl⟩ : ∃ wl, wl = wr := ⟨wr, rfl⟩
      have HB6l := hide hb
      have HrD : Hid (Rd wl wl.heap.size Rc.cells (some ⟨q, 0, none⟩) D) := by
        obtain ⟨A', c', e1, r⟩ := HO.out.rdn n (by rw [HD.out.len]; exact Hn.out.symm)
        injection e1 with e1 e2 e3
        subst e1
        exact hide r
      obtain ⟨q0, q1, _, _⟩ := (X7.out.bel hb).w2
      have HvL := hide (fun y (hy : y ∈ l) => HvA.out y (List.mem_append_left _ hy))
      have h30l2 := hide (show l.length ≤ 30 by rw [← Hn1.out]; omega)
      have HK1 := hide (Known.more Hfine.out (by rw [List.length_append, ← Hn1.out]; simp; omega) HvA.out)
      have HK2 := hide (Known.part HD.out h30l2.out HvL.out)
      clear hb
      go_wp2_with fail
      refine (flows_any A A1 g s l n c n1 c1 wl Hn.out hm (Rg.out.bel HB6l.out) Hn1.out (by omega) (Rl.out.bel HB6l.out)).mono ?_
      rintro e w8 ⟨v19, v20, rfl, o19, _, hb8⟩
      have h68 := HB6l.out.trans (hb8.mono HB6l.out.size)
      obtain ⟨na, hna⟩ : ∃ na, na = (flL g s l).length := ⟨_, rfl⟩
      have hna13 : na ≤ 13 := by have := flL_len (s := s) (l := l) Hg.out; rw [← hna, ← Hn.out] at this; omega
      obtain ⟨Aa, ca, rfl, ra⟩ := o19.rdn na hna.symm
      obtain ⟨ea, hea⟩ : ∃ ea, ea = flErr g s l := ⟨_, rfl⟩
      rw [← hea]
      have Hna := hide hna; have Hea := hide hea; have Ra := hide ra
      obtain ⟨p0, p1, _, _⟩ := (X8.out.bel h68).w2
      clear q0 q1 o19 hna hea ra
      obtain ⟨q0, q1, _, _⟩ := (X7.out.bel h68).w2
      go_wp2_with fail
      refine (falls_any A A1 g s l t n c n1 c1 w8 Hn.out hm (Rg.out.bel h68) Hn1.out (by omega) (Rl.out.bel h68)).mono ?_
      rintro e w9 ⟨v22, rfl, o22, hb9⟩
      have h69 := h68.trans (hb9.mono h68.size)
      obtain ⟨nl, hnl⟩ : ∃ nl, nl = (falL g s l t).length := ⟨_, rfl⟩
      have hnl12 : nl ≤ 12 := by have := falL_len (g := g) (s := s) (l := l) (t := t); rw [← hnl, ← Hn.out] at this; omega
      obtain ⟨Al, cl, rfl, ri⟩ := o22.rdn nl hnl.symm
      obtain ⟨ei, hei⟩ : ∃ ei, ei = falE g s l t := ⟨_, rfl⟩
      rw [← hei]
      have Hnl := hide hnl; have Hei := hide hei; have Ri := hide ri; have Ra9 := hide (Ra.out.bel hb9)
      have HBL9 := hide (hb8.trans (hb9.mono hb8.size))
      have hmm := @run_makeMap Try.prog
      have Hmp0 := hide (Mp.made w9 Try.prog 3 4 ldB)
      have hbm0 := below_new w9 (.map #[] 0)
      clear q0 q1 p0 p1 o22 hnl hei ri Ra hb8
      go_wp2_with fail
      clear hmm
      obtain ⟨bm, hbm⟩ : ∃ bm, bm = w9.heap.size := ⟨_, rfl⟩
      rw [← hbm] at Hmp0 ⊢
      have Hbm := hide hbm
      clear hbm
      obtain ⟨wo, HW1⟩ : ∃ wo, Hid (w9.alloc (.map #[] 0) = wo) := ⟨_, hide rfl⟩
      rw [HW1.out] at Hmp0 hbm0 ⊢
      clear HW1
      have HB69 := hide h69
      clear h68 h69 hb9
      go_loopw [133] (fun i wq => ∃ (k1 ns : Nat), k1 ≤ nl ∧ i = .int .i64 k1 ∧ Below w9.heap.size w9 wq ∧ Hid (Mp Try.prog 3 4 ldB wq bm k1 (memM (falL g s l t) k1) ns)) (fun i _ => nl - (intOf i).toNat)
      case atStart => exact ⟨0, 0, by omega, rfl, hbm0, hide (Hmp0.out.congr fun q => memM_zero _ _)⟩
      case round =>
        clear hbm0 Hmp0
        obtain ⟨k1, ns, hk1, rfl, hb, hmp⟩ := hrel
        by_cases hlt : k1 < nl
        · obtain ⟨b1, o1, y, rfl, hb1, hyk, c0⟩ := (Ri.out.bel hb).int (i := k1) (by rw [← Hnl.out]; exact hlt)
          have hyb := falL_get hyk
          have Hok1 := hide (show okI y by unfold okI; rw [← Hn.out] at hyb; omega)
          have Hyk := hide hyk
          clear hyk hyb
          go_wp2_with (at_mapUpdate; refine wpList_mapWrite rfl _ _ _ rfl mapB hmp.out (by omega) rfl y rfl Hok1.out true rfl trivial ?_; intro w5 hmp5 hg5)
          have hbb := Hbm.out
          exact ⟨⟨k1 + 1, _, by omega, by go_num, hb.grown hg5 hb.size (fun g hg => by injection hg with hg; omega), hide (hmp5.congr fun q => memM_succ Hyk.out q)⟩, by simp [intOf]; omega⟩
        · obtain rfl : nl = k1 := by omega
          obtain ⟨wm, rfl⟩ : ∃ wm, wm = wr := ⟨wr, rfl⟩
          have HBm := hide hb
          clear hb
          go_wp2_with fail
          go_loopw [143] (fun i wq => ∃ k3 : Nat, k3 ≤ 2 ∧ i = .int .i64 k3 ∧ Below wm.heap.size wm wq) (fun i _ => 2 - (intOf i).toNat)
          case atStart => exact ⟨0, by omega, rfl, Below.refl _ _⟩
          case round =>
            obtain ⟨k3, hk3, rfl, hb⟩ := hrel
            have HBr := hide (HB69.out.trans ((HBm.out.trans (hb.mono HBm.out.size)).mono HB69.out.size))
            have HB9r := hide (HBm.out.trans (hb.mono HBm.out.size))
            have hbm3 := hb
            by_cases hlt3 : k3 < 2
            · obtain ⟨Ax, cx, gx, Ay, ny, cy, ly, hix, hiy, hK, rx, ry, hny, hny2⟩ : ∃ (Ax : Option Addr) (cx : Nat) (gx : List Rc) (Ay : Option Addr) (ny cy : Nat) (ly : List Ga),
                  (∀ w, (Instr.index 97 (.agg #[.slice A n c, .slice (some ⟨q, 0, none⟩) n cq]) (.int .i64 (k3 : Int))).run Try.prog w = .ok (.slice Ax n cx) w) ∧
                  (∀ w, (Instr.index 98 (.agg #[.slice A2 (n1 + 1) c2, .slice A1 n1 c1]) (.int .i64 (k3 : Int))).run Try.prog w = .ok (.slice Ay ny cy) w) ∧
                  Known g gx l ly ∧ Rd wr wr.heap.size Rc.cells Ax gx ∧ Rd wr wr.heap.size Ga.cells Ay ly ∧ ny = ly.length ∧ ny ≤ 100 := by
                rcases (show k3 = 0 ∨ k3 = 1 by omega) with rfl | rfl
                · exact ⟨A, c, g, A2, n1 + 1, c2, l ++ [x], fun _ => by kernel_rfl, fun _ => by kernel_rfl, HK1.out, Rg.out.bel HBr.out, R48.out.bel HBr.out, by rw [List.length_append, ← Hn1.out]; rfl, by omega⟩
                · exact ⟨some ⟨q, 0, none⟩, cq, D, A1, n1, c1, l, fun _ => by kernel_rfl, fun _ => by kernel_rfl, HK2.out, HrD.out.bel (HBL9.out.trans (HB9r.out.mono HBL9.out.size)), Rl.out.bel HBr.out, Hn1.out, by omega⟩
              have HK := hide hK; have Hny := hide hny
              obtain ⟨q0, q1, _, _⟩ := (X7.out.bel HBr.out).w2
              clear hK hny hb
              go_wp2_with fail
              refine (flows_any Ax Ay gx s ly n cx ny cy wr (by rw [HK.out.b.len]; exact Hn.out) hm rx Hny.out (by omega) ry).mono ?_
              rintro e w10 ⟨v31, v32, rfl, o31, _, hxw⟩
              have hB10 := HBr.out.trans (hxw.mono HBr.out.size)
              have hfl := HK.out.fl (s := s) Hg.out Hso.out
              clear q0 q1 hix hiy
              cases hF : fitS gx ly s with
              | none =>
                rw [hF] at hfl
                have hfl2 : flErr gx s ly = 24 := hfl
                rw [hfl2]
                clear hfl hfl2 hF o31
                obtain ⟨q0, q1, _, _⟩ := (X7.out.bel hB10).w2
                obtain ⟨p0, p1, _, _⟩ := (X8.out.bel hB10).w2
                have HBw := hide hB10
                go_wp2_with fail
                refine (falls_any Ax Ay gx s ly t n cx ny cy w10 (by rw [HK.out.b.len]; exact Hn.out) hm (rx.bel hxw) Hny.out (by omega) (ry.bel hxw)).mono ?_
                rintro e w12 ⟨v35, rfl, o35, hb12⟩
                obtain ⟨hfe, hsub⟩ := HK.out.falls (s := s) (t := t) Hg.out Hso.out Hto.out h30l2.out HvL.out
                obtain ⟨nm, hnm⟩ : ∃ nm, nm = (falL gx s ly t).length := ⟨_, rfl⟩
                have hnm12 : nm ≤ 12 := by have := falL_len (g := gx) (s := s) (l := ly) (t := t); rw [HK.out.b.len, ← Hn.out, ← hnm] at this; omega
                obtain ⟨Am, cm, rfl, rm⟩ := o35.rdn nm hnm.symm
                have Hnm := hide hnm; have Rm := hide rm; have Hsub := hide hsub; have Hb12 := hide hb12
                have HB12 := hide (HBw.out.trans (hb12.mono HBw.out.size))
                have HBm12 := hide ((hbm3.trans (hxw.mono hbm3.size)).trans (hb12.mono (hbm3.trans (hxw.mono hbm3.size)).size))
                clear q0 q1 p0 p1 hnm rm hsub o35 hb12
                rcases hfe with ⟨hE, hE2⟩ | hE
                · rw [hE]
                  rw [← Hei.out] at hE2
                  obtain rfl : ei = 0 := hE2
                  clear hE
                  go_wp2_with fail
                  go_loopw [228] (fun i wq => ∃ k5 : Nat, k5 ≤ nm ∧ i = .int .i64 k5 ∧ Below w12.heap.size w12 wq) (fun i _ => nm - (intOf i).toNat)
                  case atStart => exact ⟨0, by omega, rfl, Below.refl _ _⟩
                  case round =>
                    obtain ⟨k5, hk5, rfl, hb5⟩ := hrel
                    have hmr5 := hide ((hmp.out.below HBm12.out hmp.out.lt).below hb5 (hmp.out.below HBm12.out hmp.out.lt).lt)
                    have HB5 := hide (HBm12.out.trans (hb5.mono HBm12.out.size))
                    by_cases hlt5 : k5 < nm
                    · obtain ⟨b1, o1, y, rfl, hb1, hyk, c0⟩ := (Rm.out.bel hb5).int (i := k5) (by rw [← Hnm.out]; exact hlt5)
                      have hyb := falL_get hyk
                      rw [HK.out.b.len, ← Hn.out] at hyb
                      have Hok1 := hide (show okI y by unfold okI; omega)
                      have Hin := hide (memM_in (by rw [← Hnl.out]; exact Nat.le_refl _) (Hsub.out y (List.mem_of_getElem? hyk)) : (memM (falL g s l t) nl y).getD false = true)
                      clear hyk hyb
                      go_wp2_with (at_lookup; refine wpList_mapRead rfl _ _ rfl mapB hmr5.out rfl y rfl Hok1.out ?_; rw [Hin.out])
                      exact ⟨⟨k5 + 1, by omega, by go_num, hb5⟩, by simp [intOf]; omega⟩
                    · go_wp2_with fail
                      exact ⟨⟨k3 + 1, by omega, by go_num, HB5.out⟩, by simp [intOf]; omega⟩
                · rw [hE]
                  clear hE
                  go_wp2_with fail
                  go_loopw [228] (fun i wq => ∃ k5 : Nat, k5 ≤ nm ∧ i = .int .i64 k5 ∧ Below w12.heap.size w12 wq) (fun i _ => nm - (intOf i).toNat)
                  case atStart => exact ⟨0, by omega, rfl, Below.refl _ _⟩
                  case round =>
                    obtain ⟨k5, hk5, rfl, hb5⟩ := hrel
                    have hmr5 := hide ((hmp.out.below HBm12.out hmp.out.lt).below hb5 (hmp.out.below HBm12.out hmp.out.lt).lt)
                    have HB5 := hide (HBm12.out.trans (hb5.mono HBm12.out.size))
                    by_cases hlt5 : k5 < nm
                    · obtain ⟨b1, o1, y, rfl, hb1, hyk, c0⟩ := (Rm.out.bel hb5).int (i := k5) (by rw [← Hnm.out]; exact hlt5)
                      have hyb := falL_get hyk
                      rw [HK.out.b.len, ← Hn.out] at hyb
                      have Hok1 := hide (show okI y by unfold okI; omega)
                      have Hin := hide (memM_in (by rw [← Hnl.out]; exact Nat.le_refl _) (Hsub.out y (List.mem_of_getElem? hyk)) : (memM (falL g s l t) nl y).getD false = true)
                      clear hyk hyb
                      go_wp2_with (at_lookup; refine wpList_mapRead rfl _ _ rfl mapB hmr5.out rfl y rfl Hok1.out ?_; rw [Hin.out])
                      exact ⟨⟨k5 + 1, by omega, by go_num, hb5⟩, by simp [intOf]; omega⟩
                    · go_wp2_with fail
                      exact ⟨⟨k3 + 1, by omega, by go_num, HB5.out⟩, by simp [intOf]; omega⟩
              | some Fx =>
                rw [hF] at hfl
                have hfl2 : flErr gx s ly = 0 := hfl
                obtain ⟨k1', k2', k3', k4', k5'⟩ := HK.out.fit Hg.out Hso.out h30l2.out HvL.out hF
                rw [← Hea.out] at k1'
                obtain rfl : ea = 0 := k1'
                rw [hfl2]
                rw [k2'] at o31
                obtain ⟨Af, cf, rfl, rf⟩ := o31.rdn na (by rw [k3', Hna.out, k4'])
                have Hlen := hide (show Fx.length = na by rw [k3', Hna.out, k4'])
                have Hna2 := hide (show na = n + 1 by rw [Hna.out, k4', ← Hn.out])
                have Hss := hide k5'
                have Rf := hide rf; have Rx := hide rx; have Ry := hide ry; have Hxw := hide hxw; have HB10 := hide hB10
                have Ra10 := hide (Ra9.out.bel (HB9r.out.trans (hxw.mono HB9r.out.size)))
                clear hfl hfl2 hF o31 k2' k3' k4' k5' rf rx ry hxw hB10
                go_wp2_with fail
                go_loopw [173] (fun i wq => ∃ k4 : Nat, k4 ≤ na ∧ i = .int .i64 k4 ∧ Below w10.heap.size w10 wq) (fun i _ => na - (intOf i).toNat)
                case atStart => exact ⟨0, by omega, rfl, Below.refl _ _⟩
                case round =>
                  obtain ⟨k4, hk4, rfl, hb4⟩ := hrel
                  by_cases hlt4 : k4 < na
                  · obtain ⟨b2, p2, alo, ahi, rfl, _, hak, c2', c3'⟩ := (Ra10.out.bel hb4).sp (i := k4) (by rw [← Hna.out]; exact hlt4)
                    obtain ⟨b4, p4, blo, bhi, rfl, _, hbk, c4, c5⟩ := (Rf.out.bel hb4).sp (i := k4) (by rw [Hlen.out]; exact hlt4)
                    have hs := Hss.out k4 (by have := Hna2.out; have := Hn.out; omega)
                    rw [List.getD_eq_getElem?_getD, hbk, List.getD_eq_getElem?_getD, hak] at hs
                    obtain ⟨hs1, hs2⟩ := hs
                    simp only [Option.getD_some] at hs1 hs2
                    have t1 : decide (blo < alo) = false := decide_eq_false (by omega)
                    have t2 : decide (ahi < bhi) = false := decide_eq_false (by omega)
                    have ik : (k4 : Int) < (na : Int) := by omega
                    have Hb4 := hide hb4
                    clear hak hbk hs1 hs2 hb4
                    go_wp2_with fail
                    go_quiet (fail)
                    go_wp2_with fail
                    exact ⟨⟨k4 + 1, by omega, by go_num, below_drewN Hb4.out _⟩, by simp [intOf]; omega⟩
                  · obtain ⟨w11, rfl⟩ : ∃ w11, w11 = wr := ⟨wr, rfl⟩
                    have hxw := Hxw.out.trans (hb4.mono Hxw.out.size)
                    have hB11 := HB10.out.trans (hb4.mono HB10.out.size)
                    have rx := Rx.out; have ry := Ry.out
                    clear hb4
                    obtain ⟨q0, q1, _, _⟩ := (X7.out.bel hB11).w2
                    obtain ⟨p0, p1, _, _⟩ := (X8.out.bel hB11).w2
                    have HBw := hide hB11
                    go_wp2_with fail
                    refine (falls_any Ax Ay gx s ly t n cx ny cy w11 (by rw [HK.out.b.len]; exact Hn.out) hm (rx.bel hxw) Hny.out (by omega) (ry.bel hxw)).mono ?_
                    rintro e w12 ⟨v35, rfl, o35, hb12⟩
                    obtain ⟨hfe, hsub⟩ := HK.out.falls (s := s) (t := t) Hg.out Hso.out Hto.out h30l2.out HvL.out
                    obtain ⟨nm, hnm⟩ : ∃ nm, nm = (falL gx s ly t).length := ⟨_, rfl⟩
                    have hnm12 : nm ≤ 12 := by have := falL_len (g := gx) (s := s) (l := ly) (t := t); rw [HK.out.b.len, ← Hn.out, ← hnm] at this; omega
                    obtain ⟨Am, cm, rfl, rm⟩ := o35.rdn nm hnm.symm
                    have Hnm := hide hnm; have Rm := hide rm; have Hsub := hide hsub; have Hb12 := hide hb12
                    have HB12 := hide (HBw.out.trans (hb12.mono HBw.out.size))
                    have HBm12 := hide ((hbm3.trans (hxw.mono hbm3.size)).trans (hb12.mono (hbm3.trans (hxw.mono hbm3.size)).size))
                    clear q0 q1 p0 p1 hnm rm hsub o35 hb12
                    rcases hfe with ⟨hE, hE2⟩ | hE
                    · rw [hE]
                      rw [← Hei.out] at hE2
                      obtain rfl : ei = 0 := hE2
                      clear hE
                      go_wp2_with fail
                      go_loopw [228] (fun i wq => ∃ k5 : Nat, k5 ≤ nm ∧ i = .int .i64 k5 ∧ Below w12.heap.size w12 wq) (fun i _ => nm - (intOf i).toNat)
                      case atStart => exact ⟨0, by omega, rfl, Below.refl _ _⟩
                      case round =>
                        obtain ⟨k5, hk5, rfl, hb5⟩ := hrel
                        have hmr5 := hide ((hmp.out.below HBm12.out hmp.out.lt).below hb5 (hmp.out.below HBm12.out hmp.out.lt).lt)
                        have HB5 := hide (HBm12.out.trans (hb5.mono HBm12.out.size))
                        by_cases hlt5 : k5 < nm
                        · obtain ⟨b1, o1, y, rfl, hb1, hyk, c0⟩ := (Rm.out.bel hb5).int (i := k5) (by rw [← Hnm.out]; exact hlt5)
                          have hyb := falL_get hyk
                          rw [HK.out.b.len, ← Hn.out] at hyb
                          have Hok1 := hide (show okI y by unfold okI; omega)
                          have Hin := hide (memM_in (by rw [← Hnl.out]; exact Nat.le_refl _) (Hsub.out y (List.mem_of_getElem? hyk)) : (memM (falL g s l t) nl y).getD false = true)
                          clear hyk hyb
                          go_wp2_with (at_lookup; refine wpList_mapRead rfl _ _ rfl mapB hmr5.out rfl y rfl Hok1.out ?_; rw [Hin.out])
                          exact ⟨⟨k5 + 1, by omega, by go_num, hb5⟩, by simp [intOf]; omega⟩
                        · go_wp2_with fail
                          exact ⟨⟨k3 + 1, by omega, by go_num, HB5.out⟩, by simp [intOf]; omega⟩
                    · rw [hE]
                      clear hE
                      go_wp2_with fail
                      go_loopw [228] (fun i wq => ∃ k5 : Nat, k5 ≤ nm ∧ i = .int .i64 k5 ∧ Below w12.heap.size w12 wq) (fun i _ => nm - (intOf i).toNat)
                      case atStart => exact ⟨0, by omega, rfl, Below.refl _ _⟩
                      case round =>
                        obtain ⟨k5, hk5, rfl, hb5⟩ := hrel
                        have hmr5 := hide ((hmp.out.below HBm12.out hmp.out.lt).below hb5 (hmp.out.below HBm12.out hmp.out.lt).lt)
                        have HB5 := hide (HBm12.out.trans (hb5.mono HBm12.out.size))
                        by_cases hlt5 : k5 < nm
                        · obtain ⟨b1, o1, y, rfl, hb1, hyk, c0⟩ := (Rm.out.bel hb5).int (i := k5) (by rw [← Hnm.out]; exact hlt5)
                          have hyb := falL_get hyk
                          rw [HK.out.b.len, ← Hn.out] at hyb
                          have Hok1 := hide (show okI y by unfold okI; omega)
                          have Hin := hide (memM_in (by rw [← Hnl.out]; exact Nat.le_refl _) (Hsub.out y (List.mem_of_getElem? hyk)) : (memM (falL g s l t) nl y).getD false = true)
                          clear hyk hyb
                          go_wp2_with (at_lookup; refine wpList_mapRead rfl _ _ rfl mapB hmr5.out rfl y rfl Hok1.out ?_; rw [Hin.out])
                          exact ⟨⟨k5 + 1, by omega, by go_num, hb5⟩, by simp [intOf]; omega⟩
                        · go_wp2_with fail
                          exact ⟨⟨k3 + 1, by omega, by go_num, HB5.out⟩, by simp [intOf]; omega⟩
            · go_wp2_with fail
              go_ret
              exact ⟨by first | rfl | simp, hB7.trans (HBr.out.mono hB7.size)⟩
set_option maxRecDepth 100000 in
theorem galleryMore_lifted (os : Os) (started : os.Started) (H : Type) (enc : TypeId × Value → H) :
    ReturnsInHanded {} Try.checked os 13 .any (Rows.galleryMoreSpec.pre6 enc Try.prog Try.f13 Rows.galleryMoreRow.domain false) (Rows.galleryMoreSpec.post enc Try.prog Try.f13 false true false false) := by
  refine law_lifted_sized os started H enc (s := Rows.galleryMoreSpec) Try.func13 (by kernel_rfl) ?_ rfl Try.underlying4 rfl (of_decide_eq_true (by kernel_rfl))
    (ChangeSpec.witness6 (enc := enc) (C := Try.checked) false ⟨#[], #[.slice none 0 0, .agg #[.int .i64 0, .int .i64 0], .agg #[.int .i64 0, .int .i64 0], .slice none 0 0, .agg #[.int .i64 0, .int .i64 0, .int .i64 0], .slice none 0 0], []⟩ 8 (by kernel_rfl) (by kernel_rfl) (by kernel_rfl) (by kernel_rfl)) ?_
  · intro ds hds
    match ds, hds with
    | [a, b, c, d, e, f], _ => rfl
  · intro W base args ds ps hval hA hlt hsz
    rw [Try.params13] at hA hval hsz
    obtain ⟨v0, v1, v2, v3, v4, v5, d0, d1, d2, d3, d4, d5, p0, p1, p2, p3, p4, p5, rfl, rfl, rfl, h0, h1, h2, h3, h4, h5⟩ := trodAll_six hA
    obtain ⟨A, n, c, g, rfl, hn, hm, hr, _⟩ := open_sl shape_rc Try.underlying22 cells_rc Rc.len (by omega) (hval 0 _ v0 rfl rfl) h0
    obtain ⟨s, rfl, _⟩ := open_val shape_sp Try.underlying24 (hval 1 _ v1 rfl rfl) h1
    obtain ⟨t, rfl, _⟩ := open_val shape_sp Try.underlying24 (hval 2 _ v2 rfl rfl) h2
    obtain ⟨A1, n1, c1, l, rfl, hnl, hm1, hx1, _⟩ := open_sl shape_ga Try.underlying35 cells_ga Ga.len (by omega) (hval 3 _ v3 rfl rfl) h3
    obtain ⟨x, rfl, _⟩ := open_val shape_ga Try.underlying64 (hval 4 _ v4 rfl rfl) h4
    obtain ⟨B, nb, cb, bys, rfl, hnb, hnb2, hby, h32⟩ := open_sl shape_u32 Try.underlying67 cells_u32 u32cell_len (by omega) (hval 5 _ v5 rfl rfl) h5
    exact moreg_walk A A1 B g s t l x bys n c n1 c1 nb cb W hn hm hr hnl (slice_sized (t := 35) Try.underlying35 (by kernel_rfl) hsz (j := 3) rfl rfl h3) hx1 hnb hnb2 hby h32

theorem galleryMore_holds : Rows.GalleryMoreSaid :=
  OpenClaim.holds_of_wide 13 Try.f13 rfl rfl rfl rfl rfl rfl rfl ⟨rfl, rfl, rfl, rfl, rfl⟩ rfl rfl rfl rfl rfl (by kernel_rfl) Try.func13 (by kernel_rfl)
    (of_decide_eq_true (by kernel_rfl)) (by unfold Func.isWrapper; rw [if_neg (of_decide_eq_false (by kernel_rfl))]; exact ⟨rfl, rfl⟩)
    (fun os started H enc _ => galleryMore_lifted os started H enc)
#print axioms galleryMore_holds
end Go.Proofs.Ytkmocikcohhdoaa
