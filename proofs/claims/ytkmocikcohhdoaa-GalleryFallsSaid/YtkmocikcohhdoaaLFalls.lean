/- GalleryFalls: the reaches that are suspected, and where to measure next, or the errors, are the specification's. The law returns true for every gallery, flow in, gauges and fall, and leaves its arguments as they were. No conditions. -/
import Derived.Test.YtkmocikcohhdoaaH8
import Derived.Test.YtkmocikcohhdoaaG6
import Derived.Test.YtkmocikcohhdoaaOpenW
set_option linter.unusedVariables false
set_option linter.unusedSimpArgs false
namespace Go.Proofs.Ytkmocikcohhdoaa
open Go.RowKit Go.Shelf Go.WideShapes Go.ChangeShapes Go.ChangeAt
theorem falL_len {g : List Rc} {s : Sp} {l : List Ga} {t : Sp} : (falL g s l t).length ≤ 12 := by
  unfold falL
  split
  · rename_i h
    obtain ⟨h1, _, _⟩ := falE_parts h
    obtain ⟨_, hg12, _⟩ := enter_parts h1
    rw [List.length_map]
    exact Nat.le_trans (falN_len _) hg12
  · simp
set_option maxHeartbeats 4000000 in
set_option maxRecDepth 100000 in
theorem falls_walk (A A' : Option Addr) (g : List Rc) (s : Sp) (l : List Ga) (t : Sp) (n c n' c' : Nat) (w : World) (hn : n = g.length) (hm : n ≤ 9223372036854775807) (hx : Rd w w.heap.size Rc.cells A g)
    (hn' : n' = l.length) (hm' : n' ≤ 9223372036854775807) (hx' : Rd w w.heap.size Ga.cells A' l) :
    Calls Try.prog 5 #[.slice A n c, .agg #[.int .i64 s.lo, .int .i64 s.hi], .slice A' n' c', .agg #[.int .i64 t.lo, .int .i64 t.hi]] w fun e w' => e = .returned (.bool true) ∧ Below w.heap.size w w' := by
  have Hn := hide hn; have Hn' := hide hn'
  by_cases h20 : n ≤ 20
  rotate_left
  · go_enter Try.func5, Try.ntmps5
    clear hn hn'
    go_wp2_with (go_at_call 14; refine (small_any _ _ _ _ _ _ _ (by omega) (by omega)).mono ?_; rintro e w' ⟨rfl, rfl⟩)
    go_ret
    exact ⟨rfl, (below_new _ _).trans ((below_new _ _).mono (by simp))⟩
  by_cases h50 : n' ≤ 50
  rotate_left
  · go_enter Try.func5, Try.ntmps5
    clear hn hn'
    go_wp2_with (go_at_call 14; refine (small_any _ _ _ _ _ _ _ (by omega) (by omega)).mono ?_; rintro e w' ⟨rfl, rfl⟩)
    go_ret
    exact ⟨rfl, (below_new _ _).trans ((below_new _ _).mono (by simp))⟩
  obtain ⟨b5, w0, e5, ew0, hx5, hb0, hz0⟩ := mk_bx w #[.int .i64 s.lo, .int .i64 s.hi] 24
  obtain ⟨b7, w1, e7, ew1, hx7, hb01, hz1⟩ := mk_bx w0 #[.int .i64 t.lo, .int .i64 t.hi] 24
  have e57 : b5 + 1 = b7 := by have := e7.out; omega
  have hb1 := hb0.trans (hb01.mono hb0.size)
  replace hx5 := hx5.bel hb01
  obtain ⟨b2, w2, e2, ew2, ho2, hb2⟩ := mk_own (cells := Rc.cells) w1 #[] 96 6 [] Rc.len rfl (by simp) w1.heap.size (Nat.le_refl _)
  have hB2 := hb1.trans (hb2.mono hb1.size)
  have Hx2 := hide ((hx.below hB2).more hB2.size); have Hx' := hide hx'; have Hx := hide hx
  obtain rfl : b2 = b7 + 1 := by have := e2.out; omega
  have Ho2 := hide ho2
  have hs12 : w1.heap.size ≤ w2.heap.size := hb2.size
  have hl0 : g.length = n := hn.symm
  have Hl0 := hide hl0
  have Hg : Hid (∀ W, w2.grownBy W (some (b7 + 1)) → Below w1.heap.size w1 W) := hide (fun W hg => own_grown ho2 hb2 (by simpa [Value.ownBlock] using hg) (Nat.le_refl _))
  clear hn hn' hx hx' hz1 hz0 ho2 hl0
  go_enter Try.func5, Try.ntmps5
  go_wp2_with (first | (go_at_call 14; refine (small_any _ _ _ _ _ _ _ (by omega) (by omega)).mono ?_; rintro e w' ⟨rfl, rfl⟩) | (at_builtin; rw [ew0.out, e5.out, e57, ew1.out, ew2.out]; refine wpList_app (v := .slice (some ⟨b7 + 1, 0, none⟩) 0 0) (xs := []) (ys := g) (n := n) el_rc rfl (.tmp 27) (.tmp 28) rfl rfl Ho2.out Hl0.out rfl Hx2.out (by simp; omega) hs12 ?_; intro v3 w3 hown3 hg3 hat3; rw [List.nil_append] at hown3; have hb13 := Hg.out w3 (by simpa [Value.ownBlock] using hg3); have hB3 := hb1.trans (hb13.mono hb1.size); have hx53 := hx5.bel hb13; have hx73 := hx7.bel hb13) | (at_builtin; obtain ⟨b40, w4, e40, ew4, ho4, hb4⟩ := mk_own (cells := Ga.cells) w3 #[] 64 3 [] Ga.len rfl (by simp) w3.heap.size (Nat.le_refl _); have hB4 := hB3.trans (hb4.mono hB3.size); rw [ew4.out, e40.out]; refine wpList_app (v := .slice (some ⟨b40, 0, none⟩) 0 0) (xs := []) (ys := l) (n := n') el_ga rfl (.tmp 30) (.tmp 31) rfl rfl ho4 Hn'.out.symm rfl ((Hx'.out.below hB4).more hB4.size) (by have := Hn'.out; simp; omega) hb4.size ?_; intro v5 w5 hown5 hg5 hat5; rw [List.nil_append] at hown5; have hb35 := own_grown ho4 hb4 hg5 (Nat.le_refl _); have hB5 := hB3.trans (hb35.mono hB3.size); have hx55 := hx53.bel hb35; have hx75 := hx73.bel hb35; obtain ⟨q0, q1, _, _⟩ := hx55.w2; obtain ⟨p0, p1, _, _⟩ := hx75.w2; obtain ⟨A3, c3, rfl, hr3⟩ := (hown3.bel hb35).rdn n Hl0.out; obtain ⟨A5, c5, rfl, hr5⟩ := hown5.rdn n' Hn'.out.symm; have Hr3 := hide hr3; have Hr5 := hide hr5; clear hown3 hg3 hat3 hown5 hg5 hat5 ho4 hr3 hr5 hb35 hb13 hx53 hx73 Hx2 Hg Ho2))
  refine (falls_any A3 A5 g s l t n c3 n' c5 w5 Hn.out (by omega) Hr3.out Hn'.out (by omega) Hr5.out).mono ?_
  rintro e w6 ⟨v11, rfl, ho11, hb6⟩
  have hB6 := hB5.trans (hb6.mono hB5.size)
  obtain ⟨q0, q1, _, _⟩ := (hx55.bel hb6).w2
  obtain ⟨p0, p1, _, _⟩ := (hx75.bel hb6).w2
  have Ho11 := hide ho11
  clear ho11
  go_wp2_with fail
  refine (rFalls_any A A' g s l t n c n' c' w6 Hn.out (by omega) ((Hx.out.below hB6).more hB6.size) Hn'.out (by omega) ((Hx'.out.below hB6).more hB6.size)).mono ?_
  rintro e w7 ⟨v14, rfl, ho14, hb7⟩
  have hb57 := hb6.trans (hb7.mono hb6.size)
  have hB7 := hB5.trans (hb57.mono hB5.size)
  obtain ⟨q0, q1, _, _⟩ := (hx55.bel hb57).w2
  obtain ⟨p0, p1, _, _⟩ := (hx75.bel hb57).w2
  have Ho14 := hide ho14
  clear ho14
  go_wp2_with fail
  refine (next_any A3 A5 g s l t n c3 n' c5 w7 Hn.out (by omega) (Hr3.out.bel hb57) Hn'.out (by omega) (Hr5.out.bel hb57)).mono ?_
  rintro e w8 ⟨rfl, hb8⟩
  have hb58 := hb57.trans (hb8.mono hb57.size)
  have hB8 := hB5.trans (hb58.mono hB5.size)
  obtain ⟨q0, q1, _, _⟩ := (hx55.bel hb58).w2
  obtain ⟨p0, p1, _, _⟩ := (hx75.bel hb58).w2
  go_wp2_with fail
  refine (rNext_any A A' g s l t n c n' c' w8 Hn.out (by omega) ((Hx.out.below hB8).more hB8.size) Hn'.out (by omega) ((Hx'.out.below hB8).more hB8.size)).mono ?_
  rintro e w9 ⟨rfl, hb9⟩
  have hb59 := hb58.trans (hb9.mono hb58.size)
  have hB9 := hB5.trans (hb59.mono hB5.size)
  have hb69 : Below w6.heap.size w6 w9 := hb7.trans ((hb8.trans (hb9.mono hb8.size)).mono hb7.size)
  have hb79 : Below w7.heap.size w7 w9 := hb8.trans (hb9.mono hb8.size)
  have h12 := @falL_len g s l t
  obtain ⟨A11, c11, e11, hr11⟩ := (Ho11.out.bel hb69).rdn _ rfl
  obtain ⟨A14, c14, e14, hr14⟩ := (Ho14.out.bel hb79).rdn _ rfl
  subst e11 e14
  have Hr11 := hide hr11; have Hr14 := hide hr14
  clear hr11 hr14 q0 q1 p0 p1
  go_wp2_with fail
  refine (same_int _ _ (falL g s l t) (falL g s l t) _ _ _ _ w9 rfl rfl (by omega) (by omega) Hr11.out Hr14.out).mono ?_
  rintro e w14 ⟨rfl, hb14⟩
  have hb514 := hb59.trans (hb14.mono hb59.size)
  have hB14 := hB5.trans (hb514.mono hB5.size)
  rw [decide_eq_true rfl]
  go_wp2_with fail
  refine (same_Rc _ _ g g _ _ _ _ w14 Hn.out Hn.out (by omega) (by omega) (Hr3.out.bel hb514) ((Hx.out.below hB14).more hB14.size)).mono ?_
  rintro e w16 ⟨rfl, hb16⟩
  have hb516 := hb514.trans (hb16.mono hb514.size)
  have hB16 := hB5.trans (hb516.mono hB5.size)
  rw [decide_eq_true rfl]
  go_wp2_with fail
  refine (same_Ga _ _ l l _ _ _ _ w16 Hn'.out Hn'.out (by omega) (by omega) (Hr5.out.bel hb516) ((Hx'.out.below hB16).more hB16.size)).mono ?_
  rintro e w17 ⟨rfl, hb17⟩
  have hB17 := hB16.trans (hb17.mono hB16.size)
  rw [decide_eq_true rfl]
  go_wp2_with fail
  go_ret
  exact ⟨rfl, hB17⟩
set_option maxRecDepth 100000 in
theorem galleryFalls_lifted (os : Os) (started : os.Started) (H : Type) (enc : TypeId × Value → H) :
    ReturnsInHanded {} Try.checked os 5 .any (Rows.galleryFallsSpec.pre6 enc Try.prog Try.f5 Rows.galleryFallsRow.domain false) (Rows.galleryFallsSpec.post enc Try.prog Try.f5 false true false false) := by
  refine law_lifted os started H enc (s := Rows.galleryFallsSpec) Try.func5 (by kernel_rfl) ?_ rfl Try.underlying4 rfl (of_decide_eq_true (by kernel_rfl))
    (ChangeSpec.witness6 (enc := enc) (C := Try.checked) false ⟨#[], #[.slice none 0 0, .agg #[.int .i64 0, .int .i64 0], .slice none 0 0, .agg #[.int .i64 0, .int .i64 0]], []⟩ 8 (by kernel_rfl) (by kernel_rfl) (by kernel_rfl) (by kernel_rfl)) ?_
  · intro ds hds
    match ds, hds with
    | [a, b, c, d], _ => rfl
  · intro W base args ds ps hval hA hlt
    rw [Try.params5] at hA hval
    obtain ⟨v0, v1, v2, v3, d0, d1, d2, d3, p0, p1, p2, p3, rfl, rfl, rfl, h0, h1, h2, h3⟩ := trodAll_four hA
    obtain ⟨A, n, c, g, rfl, hn, hm, hr, _⟩ := open_sl shape_rc Try.underlying22 cells_rc Rc.len (by omega) (hval 0 _ v0 rfl rfl) h0
    obtain ⟨s, rfl, _⟩ := open_val shape_sp Try.underlying24 (hval 1 _ v1 rfl rfl) h1
    obtain ⟨A1, n1, c1, l, rfl, hn1, hm1, hr1, _⟩ := open_sl shape_ga Try.underlying35 cells_ga Ga.len (by omega) (hval 2 _ v2 rfl rfl) h2
    obtain ⟨t, rfl, _⟩ := open_val shape_sp Try.underlying24 (hval 3 _ v3 rfl rfl) h3
    exact falls_walk A A1 g s l t n c n1 c1 W hn hm hr hn1 hm1 hr1

theorem galleryFalls_holds : Rows.GalleryFallsSaid :=
  OpenClaim.holds_of_wide 5 Try.f5 rfl rfl rfl rfl rfl rfl rfl ⟨rfl, rfl, rfl, rfl, rfl⟩ rfl rfl rfl rfl rfl (by kernel_rfl) Try.func5 (by kernel_rfl)
    (of_decide_eq_true (by kernel_rfl)) (by unfold Func.isWrapper; rw [if_neg (of_decide_eq_false (by kernel_rfl))]; exact ⟨rfl, rfl⟩)
    (fun os started H enc _ => galleryFalls_lifted os started H enc)
#print axioms galleryFalls_holds
end Go.Proofs.Ytkmocikcohhdoaa
