/- GallerySources: whether a gallery is valid, what years and pumps give, and the flows that fit, or the errors, are the specification's. The law returns true for every gallery, flow in, gauges, years and pumps, and leaves its arguments as they were. No conditions. -/
import Derived.Test.YtkmocikcohhdoaaF20
import Derived.Test.YtkmocikcohhdoaaF6
import Derived.Test.YtkmocikcohhdoaaG7
import Derived.Test.YtkmocikcohhdoaaOwn2
import Derived.Test.YtkmocikcohhdoaaOpenW
set_option linter.unusedVariables false
set_option linter.unusedSimpArgs false
namespace Go.Proofs.Ytkmocikcohhdoaa
open Go.RowKit Go.Shelf Go.WideShapes Go.ChangeShapes Go.ChangeAt
theorem flL_len {g : List Rc} {s : Sp} {l : List Ga} : (flL g s l).length ≤ 13 ∧ (loL g s l).length ≤ 12 := by
  unfold flL loL
  split
  · rename_i h
    unfold flErr at h
    split at h
    · rename_i h0
      obtain ⟨_, hg12, _⟩ := enter_parts h0
      cases hf : fitS g l s with
      | none => simp [hf] at h
      | some F =>
        have := flowsF_len _ _ _ _ hf
        simp [lostS_len]; omega
    · rename_i h0; exact absurd h h0
  · simp
set_option maxHeartbeats 4000000 in
set_option maxRecDepth 100000 in
theorem sources_walk (A A' B B' : Option Addr) (g : List Rc) (s : Sp) (l : List Ga) (ys : List Yr) (ps : List Sp) (n c n' c' m d m' d' : Nat) (w : World) (hn : n = g.length) (hm : n ≤ 9223372036854775807) (hx : Rd w w.heap.size Rc.cells A g)
    (hn' : n' = l.length) (hm' : n' ≤ 9223372036854775807) (hx' : Rd w w.heap.size Ga.cells A' l) (hk : m = ys.length) (hkm : m ≤ 9223372036854775807) (hy : Rd w w.heap.size Yr.cells B ys) (hk' : m' = ps.length) (hkm' : m' ≤ 9223372036854775807) (hy' : Rd w w.heap.size Sp.cells B' ps) :
    Calls Try.prog 4 #[.slice A n c, .agg #[.int .i64 s.lo, .int .i64 s.hi], .slice A' n' c', .slice B m d, .slice B' m' d'] w fun e w' => e = .returned (.bool true) ∧ Below w.heap.size w w' := by
  have Hn := hide hn; have Hn' := hide hn'; have Hk := hide hk; have Hk' := hide hk'
  by_cases h20 : n ≤ 20
  rotate_left
  · go_enter Try.func4, Try.ntmps4
    clear hn hn' hk hk'
    go_wp2_with (go_at_call 14; refine (small_any _ _ _ _ _ _ _ (by omega) (by omega)).mono ?_; rintro e w' ⟨rfl, rfl⟩)
    go_ret
    exact ⟨rfl, below_new _ _⟩
  by_cases h50 : n' ≤ 50
  rotate_left
  · go_enter Try.func4, Try.ntmps4
    clear hn hn' hk hk'
    go_wp2_with (go_at_call 14; refine (small_any _ _ _ _ _ _ _ (by omega) (by omega)).mono ?_; rintro e w' ⟨rfl, rfl⟩)
    go_ret
    exact ⟨rfl, below_new _ _⟩
  by_cases hm20 : m ≤ 20
  rotate_left
  · go_enter Try.func4, Try.ntmps4
    clear hn hn' hk hk'
    go_wp2_with (go_at_call 14; refine (small_any _ _ _ _ _ _ _ (by omega) (by omega)).mono ?_; rintro e w' ⟨rfl, rfl⟩)
    go_ret
    exact ⟨rfl, below_new _ _⟩
  by_cases hp20 : m' ≤ 20
  rotate_left
  · go_enter Try.func4, Try.ntmps4
    clear hn hn' hk hk'
    go_wp2_with (go_at_call 14; refine (small_any _ _ _ _ _ _ _ (by omega) (by omega)).mono ?_; rintro e w' ⟨rfl, rfl⟩)
    go_ret
    exact ⟨rfl, below_new _ _⟩
  obtain ⟨b6, w1, e6, ew1, hx6, hb1, hz1⟩ := mk_bx w #[.int .i64 s.lo, .int .i64 s.hi] 24
  obtain ⟨b2, w2, e2, ew2, ho2, hb2⟩ := mk_own (cells := Rc.cells) w1 #[] 96 6 [] Rc.len rfl (by simp) w1.heap.size (Nat.le_refl _)
  have hB2 := hb1.trans (hb2.mono hb1.size)
  have Hx2 := hide ((hx.below hB2).more hB2.size); have Hx' := hide hx'; have Hy := hide hy; have Hy' := hide hy'; have Hx := hide hx
  obtain rfl : b2 = b6 + 1 := by have := e2.out; omega
  have Ho2 := hide ho2
  have hs12 : w1.heap.size ≤ w2.heap.size := hb2.size
  have hl0 : g.length = n := hn.symm
  have Hl0 := hide hl0
  have Hg : Hid (∀ W, w2.grownBy W (some (b6 + 1)) → Below w1.heap.size w1 W) := hide (fun W hg => own_grown ho2 hb2 (by simpa [Value.ownBlock] using hg) (Nat.le_refl _))
  clear hn hn' hk hk' hx hx' hy hy' hz1 ho2 hl0
  go_enter Try.func4, Try.ntmps4
  go_wp2_with (first | (go_at_call 14; refine (small_any _ _ _ _ _ _ _ (by omega) (by omega)).mono ?_; rintro e w' ⟨rfl, rfl⟩) | (at_builtin; rw [ew1.out, ew2.out, e6.out]; refine wpList_app (v := .slice (some ⟨b6 + 1, 0, none⟩) 0 0) (xs := []) (ys := g) (n := n) el_rc rfl (.tmp 37) (.tmp 38) rfl rfl Ho2.out Hl0.out rfl Hx2.out (by simp; omega) hs12 ?_; intro v3 w3 hown3 hg3 hat3; rw [List.nil_append] at hown3; have hb13 := Hg.out w3 (by simpa [Value.ownBlock] using hg3); have hB3 := hb1.trans (hb13.mono hb1.size); have hx63 := hx6.bel hb13) | (at_builtin; obtain ⟨b40, w4, e40, ew4, ho4, hb4⟩ := mk_own (cells := Ga.cells) w3 #[] 64 3 [] Ga.len rfl (by simp) w3.heap.size (Nat.le_refl _); have hB4 := hB3.trans (hb4.mono hB3.size); rw [ew4.out, e40.out]; refine wpList_app (v := .slice (some ⟨b40, 0, none⟩) 0 0) (xs := []) (ys := l) (n := n') el_ga rfl (.tmp 40) (.tmp 41) rfl rfl ho4 Hn'.out.symm rfl ((Hx'.out.below hB4).more hB4.size) (by have := Hn'.out; simp; omega) hb4.size ?_; intro v5 w5 hown5 hg5 hat5; rw [List.nil_append] at hown5; have hb35 := own_grown ho4 hb4 hg5 (Nat.le_refl _); have hB5 := hB3.trans (hb35.mono hB3.size); have hx65 := hx63.bel hb35; obtain ⟨A3, c3, rfl, hr3⟩ := (hown3.bel hb35).rdn n Hl0.out; obtain ⟨A5, c5, rfl, hr5⟩ := hown5.rdn n' Hn'.out.symm; have Hr3 := hide hr3; have Hr5 := hide hr5; clear hown3 hg3 hat3 hown5 hg5 hat5 ho4 hr3 hr5 hb35 hb13 hx63 Hx2 Hg Ho2))
  refine (source_any B B' ys ps m d m' d' w5 Hk.out hkm ((Hy.out.below hB5).more hB5.size) Hk'.out hkm' ((Hy'.out.below hB5).more hB5.size)).mono ?_
  rintro e w6 ⟨rfl, hb6⟩
  obtain ⟨b13, w7, e13, ew7, hx13, hb7, hz7⟩ := mk_bx w6 #[.int .i64 (srcV ys ps).lo, .int .i64 (srcV ys ps).hi] 24
  have hb57 := hb6.trans (hb7.mono hb6.size)
  have hB7 := hB5.trans (hb57.mono hB5.size)
  go_wp2_with fail
  rw [ew7.out, e13.out]
  refine (rsource_any B B' ys ps m d m' d' w7 Hk.out hkm ((Hy.out.below hB7).more hB7.size) Hk'.out hkm' ((Hy'.out.below hB7).more hB7.size)).mono ?_
  rintro e w8 ⟨rfl, hb8⟩
  obtain ⟨b15, w9, e15, ew9, hx15, hb9, hz9⟩ := mk_bx w8 #[.int .i64 (srcV ys ps).lo, .int .i64 (srcV ys ps).hi] 24
  have hb79 := hb8.trans (hb9.mono hb8.size)
  have hb59 := hb57.trans (hb79.mono hb57.size)
  have hB9 := hB5.trans (hb59.mono hB5.size)
  obtain ⟨q0, q1, _, _⟩ := (hx65.bel hb59).w2
  rw [← ew9.out] at q0 q1
  go_wp2_with fail
  rw [ew9.out, e15.out]
  clear q0 q1
  refine (flows_any A3 A5 g s l n c3 n' c5 w9 Hn.out (by omega) (Hr3.out.bel hb59) Hn'.out (by omega) (Hr5.out.bel hb59)).mono ?_
  rintro e w10 ⟨v17, v18, rfl, ho17, ho18, hb10⟩
  have hb510 := hb59.trans (hb10.mono hb59.size)
  have hB10 := hB5.trans (hb510.mono hB5.size)
  obtain ⟨q0, q1, _, _⟩ := (hx65.bel hb510).w2
  have Ho17 := hide ho17; have Ho18 := hide ho18
  clear ho17 ho18
  go_wp2_with fail
  clear q0 q1
  refine (rflows_any A A' g s l n c n' c' w10 Hn.out (by omega) ((Hx.out.below hB10).more hB10.size) Hn'.out (by omega) ((Hx'.out.below hB10).more hB10.size)).mono ?_
  rintro e w11 ⟨v20, v21, rfl, ho20, ho21, hb11⟩
  have hb511 := hb510.trans (hb11.mono hb510.size)
  have hB11 := hB5.trans (hb511.mono hB5.size)
  have Ho20 := hide ho20; have Ho21 := hide ho21
  clear ho20 ho21
  go_wp2_with fail
  refine (check_any A3 g n c3 w11 Hn.out (by omega) (Hr3.out.bel hb511)).mono ?_
  rintro e w12 ⟨rfl, hb12⟩
  have hb512 := hb511.trans (hb12.mono hb511.size)
  have hB12 := hB5.trans (hb512.mono hB5.size)
  go_wp2_with fail
  refine (rcheck_any A g n c w12 Hn.out (by omega) ((Hx.out.below hB12).more hB12.size)).mono ?_
  rintro e w13 ⟨rfl, hb13⟩
  have hb513 := hb512.trans (hb13.mono hb512.size)
  have hB13 := hB5.trans (hb513.mono hB5.size)
  have hb713 : Below w7.heap.size w7 w13 := hb79.trans ((hb10.trans ((hb11.trans ((hb12.trans (hb13.mono hb12.size)).mono hb11.size)).mono hb10.size)).mono hb79.size)
  have hb913 : Below w9.heap.size w9 w13 := hb10.trans ((hb11.trans ((hb12.trans (hb13.mono hb12.size)).mono hb11.size)).mono hb10.size)
  have hb1013 : Below w10.heap.size w10 w13 := hb11.trans ((hb12.trans (hb13.mono hb12.size)).mono hb11.size)
  have hb1113 : Below w11.heap.size w11 w13 := hb12.trans (hb13.mono hb12.size)
  obtain ⟨p0, p1, _, _⟩ := (hx13.bel hb713).w2
  obtain ⟨p2, p3, _, _⟩ := (hx15.bel hb913).w2
  obtain ⟨h13, h12⟩ := @flL_len g s l
  obtain ⟨A17, c17, e17, hr17⟩ := (Ho17.out.bel hb1013).rdn _ rfl
  obtain ⟨A18, c18, e18, hr18⟩ := (Ho18.out.bel hb1013).rdn _ rfl
  obtain ⟨A20, c20, e20, hr20⟩ := (Ho20.out.bel hb1113).rdn _ rfl
  obtain ⟨A21, c21, e21, hr21⟩ := (Ho21.out.bel hb1113).rdn _ rfl
  subst e17 e18 e20 e21
  have Hr17 := hide hr17; have Hr18 := hide hr18; have Hr20 := hide hr20; have Hr21 := hide hr21
  clear hr17 hr18 hr20 hr21
  go_wp2_with fail
  refine (same_Sp _ _ (flL g s l) (flL g s l) _ _ _ _ w13 rfl rfl (by omega) (by omega) Hr17.out Hr20.out).mono ?_
  rintro e w14 ⟨rfl, hb14⟩
  have hb514 := hb513.trans (hb14.mono hb513.size)
  have hB14 := hB5.trans (hb514.mono hB5.size)
  rw [decide_eq_true rfl]
  go_wp2_with fail
  refine (same_Sp _ _ (loL g s l) (loL g s l) _ _ _ _ w14 rfl rfl (by omega) (by omega) (Hr18.out.bel hb14) (Hr21.out.bel hb14)).mono ?_
  rintro e w15 ⟨rfl, hb15⟩
  have hb515 := hb514.trans (hb15.mono hb514.size)
  have hB15 := hB5.trans (hb515.mono hB5.size)
  rw [decide_eq_true rfl]
  go_wp2_with fail
  refine (same_Rc _ _ g g _ _ _ _ w15 Hn.out Hn.out (by omega) (by omega) (Hr3.out.bel hb515) ((Hx.out.below hB15).more hB15.size)).mono ?_
  rintro e w16 ⟨rfl, hb16⟩
  have hb516 := hb515.trans (hb16.mono hb515.size)
  have hB16 := hB5.trans (hb516.mono hB5.size)
  rw [decide_eq_true rfl]
  go_wp2_with fail
  refine (same_Ga _ _ l l _ _ _ _ w16 Hn'.out Hn'.out (by omega) (by omega) (Hr5.out.bel hb516) ((Hx'.out.below hB16).more hB16.size)).mono ?_
  rintro e w17 ⟨rfl, hb17⟩
  have hB17 := hB16.trans (hb17.mono hB16.size)
  rw [decide_eq_true rfl]
  go_wp2_with fail
  go_ret
  exact ⟨rfl, hB17⟩
set_option maxRecDepth 100000 in
theorem gallerySources_lifted (os : Os) (started : os.Started) (H : Type) (enc : TypeId × Value → H) :
    ReturnsInHanded {} Try.checked os 4 .any (Rows.gallerySourcesSpec.pre6 enc Try.prog Try.f4 Rows.gallerySourcesRow.domain false) (Rows.gallerySourcesSpec.post enc Try.prog Try.f4 false true false false) := by
  refine law_lifted os started H enc (s := Rows.gallerySourcesSpec) Try.func4 (by kernel_rfl) ?_ rfl Try.underlying4 rfl (of_decide_eq_true (by kernel_rfl))
    (ChangeSpec.witness6 (enc := enc) (C := Try.checked) false ⟨#[], #[.slice none 0 0, .agg #[.int .i64 0, .int .i64 0], .slice none 0 0, .slice none 0 0, .slice none 0 0], []⟩ 8 (by kernel_rfl) (by kernel_rfl) (by kernel_rfl) (by kernel_rfl)) ?_
  · intro ds hds
    match ds, hds with
    | [a, b, c, d, e], _ => rfl
  · intro W base args ds ps hval hA hlt
    rw [Try.params4] at hA hval
    obtain ⟨v0, v1, v2, v3, v4, d0, d1, d2, d3, d4, p0, p1, p2, p3, p4, rfl, rfl, rfl, h0, h1, h2, h3, h4⟩ := trodAll_five hA
    obtain ⟨A, n, c, g, rfl, hn, hm, hr, _⟩ := open_sl shape_rc Try.underlying22 cells_rc Rc.len (by omega) (hval 0 _ v0 rfl rfl) h0
    obtain ⟨s, rfl, _⟩ := open_val shape_sp Try.underlying24 (hval 1 _ v1 rfl rfl) h1
    obtain ⟨A1, n1, c1, l, rfl, hn1, hm1, hr1, _⟩ := open_sl shape_ga Try.underlying35 cells_ga Ga.len (by omega) (hval 2 _ v2 rfl rfl) h2
    obtain ⟨B, m, d, ys, rfl, hk, hkm, hy, _⟩ := open_sl shape_yr Try.underlying36 cells_yr Yr.len (by omega) (hval 3 _ v3 rfl rfl) h3
    obtain ⟨B1, m1, d1, ps, rfl, hk1, hkm1, hy1, _⟩ := open_sl shape_sp Try.underlying37 cells_sp Sp.len (by omega) (hval 4 _ v4 rfl rfl) h4
    exact sources_walk A A1 B B1 g s l ys ps n c n1 c1 m d m1 d1 W hn hm hr hn1 hm1 hr1 hk hkm hy hk1 hkm1 hy1

theorem gallerySources_holds : Rows.GallerySourcesSaid :=
  OpenClaim.holds_of_wide 4 Try.f4 rfl rfl rfl rfl rfl rfl rfl ⟨rfl, rfl, rfl, rfl, rfl⟩ rfl rfl rfl rfl rfl (by kernel_rfl) Try.func4 (by kernel_rfl)
    (of_decide_eq_true (by kernel_rfl)) (by unfold Func.isWrapper; rw [if_neg (of_decide_eq_false (by kernel_rfl))]; exact ⟨rfl, rfl⟩)
    (fun os started H enc _ => gallerySources_lifted os started H enc)
#print axioms gallerySources_holds
end Go.Proofs.Ytkmocikcohhdoaa
