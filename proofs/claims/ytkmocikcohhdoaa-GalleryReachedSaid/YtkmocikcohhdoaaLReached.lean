/- GalleryReached: each end of a flow that is told is reached by flows that fit, and none is beyond it. The law returns true for every gallery, flow in, gauges and shaft. No conditions. -/
import Derived.Test.YtkmocikcohhdoaaJ6
import Derived.Test.YtkmocikcohhdoaaJ1
import Derived.Test.YtkmocikcohhdoaaF18
set_option linter.unusedVariables false
set_option linter.unusedSimpArgs false
namespace Go.Proofs.Ytkmocikcohhdoaa
open Go.RowKit Go.Shelf Go.WideShapes Go.ChangeShapes Go.ChangeAt
set_option maxHeartbeats 40000000 in
set_option maxRecDepth 100000 in
theorem reached_walk (A A1 : Option Addr) (g : List Rc) (s : Sp) (l : List Ga) (n c n1 c1 x : Nat) (w : World) (hn : n = g.length) (hm : n ≤ 9223372036854775807) (hx : Rd w w.heap.size Rc.cells A g)
    (hnl : n1 = l.length) (hm1 : n1 ≤ 9223372036854775807) (hx1 : Rd w w.heap.size Ga.cells A1 l) (hx255 : x ≤ 255) :
    Calls Try.prog 8 #[.slice A n c, .agg #[.int .i64 s.lo, .int .i64 s.hi], .slice A1 n1 c1, .int .u8 (x : Int)] w fun e w' => e = .returned (.bool true) ∧ Below w.heap.size w w' := by
  obtain ⟨b4, w1, e4, ew1, hx4, hb1, hz1⟩ := mk_bx w #[.slice A n c] 22
  obtain ⟨b5, w2, e5, ew2, hx5, hb2, hz2⟩ := mk_bx w1 #[.int .i64 s.lo, .int .i64 s.hi] 24
  obtain ⟨b6, w3, e6, ew3, hx6, hb3, hz3⟩ := mk_bx w2 #[.slice A1 n1 c1] 35
  have e45 : b4 + 1 = b5 := by have := e5.out; omega
  have e56 : b5 + 1 = b6 := by have := e6.out; omega
  have hB3 := (hb1.trans (hb2.mono hb1.size)).trans (hb3.mono (hb1.trans (hb2.mono hb1.size)).size)
  have Hn := hide hn; have Hn1 := hide hnl
  have Hx := hide (hx.bel hB3); have Hx1 := hide (hx1.bel hB3)
  have X4 := hide ((hx4.bel hb2).bel hb3); have X5 := hide (hx5.bel hb3); have X6 := hide hx6
  clear hn hnl hx hx1 hx4 hx5 hx6 hz1 hz2 hz3 hb1 hb2 hb3
  go_enter Try.func8, Try.ntmps8
  go_wp2_with fail
  rw [ew1.out, e4.out, e45, ew2.out, e56, ew3.out]
  refine (galive_any _).mono ?_
  rintro e w4 ⟨rfl, hb4⟩
  have hB4 := hB3.trans (hb4.mono hB3.size)
  have q4 := (X4.out.bel hb4).w1.1
  obtain ⟨q0, q1, _, _⟩ := (X5.out.bel hb4).w2
  have q6 := (X6.out.bel hb4).w1.1
  go_wp2_with fail
  refine (gready_any A g s n c w4 Hn.out hm (Hx.out.bel hb4)).mono ?_
  rintro e w5 ⟨rfl, hb5⟩
  have hb35 := hb4.trans (hb5.mono hb4.size)
  have hB5 := hB3.trans (hb35.mono hB3.size)
  cases hok : gOk g && Sp.ok 0 1000000 s
  · clear hok
    go_wp2_with fail
    go_ret
    exact ⟨rfl, hB5⟩
  obtain ⟨hg, hso⟩ := (Bool.and_eq_true _ _).mp hok
  have Hg := hide hg; have Hso := hide hso
  have hn12 : n ≤ 12 := by
    have h1 := hg
    unfold gOk inB at h1
    simp only [Bool.and_eq_true, decide_eq_true_eq] at h1
    rw [Hn.out]; omega
  clear hok hg hso q4 q0 q1 q6
  have q4 := (X4.out.bel hb35).w1.1
  obtain ⟨q0, q1, _, _⟩ := (X5.out.bel hb35).w2
  have q6 := (X6.out.bel hb35).w1.1
  by_cases h30 : 30 ≤ n1
  · go_wp2_with fail
    go_ret
    exact ⟨rfl, hB5⟩
  have hlt30 : n1 < 30 := by omega
  go_wp2_with fail
  refine (rgauges_any A A1 n l c n1 c1 w5 hm Hn1.out hm1 (Hx1.out.bel hb35)).mono ?_
  rintro e w6 ⟨rfl, hb6⟩
  have hb36 := hb35.trans (hb6.mono hb35.size)
  have hB6 := hB3.trans (hb36.mono hB3.size)
  cases hga : !(decide (30 < l.length) || l.any (Ga.bad n))
  · clear hga q4 q0 q1 q6
    go_wp2_with fail
    go_ret
    exact ⟨rfl, hB6⟩
  have he : gEnter g s l = 0 := by
    unfold gEnter gasBad
    have h1 : anyBad 1000000 [s] = false := by
      have := anyBad_one 1000000 s
      rw [Hso.out] at this
      simpa using this
    rw [Hg.out, if_pos rfl, h1, if_neg (by decide), ← Hn.out, if_neg (by rw [Bool.not_eq_true', ] at hga; rw [hga]; decide)]
  have He := hide he
  clear hga he q4 q0 q1 q6
  have q4 := (X4.out.bel hb36).w1.1
  obtain ⟨q0, q1, _, _⟩ := (X5.out.bel hb36).w2
  have q6 := (X6.out.bel hb36).w1.1
  go_wp2_with fail
  refine (flows_any A A1 g s l n c n1 c1 w6 Hn.out hm (Hx.out.bel hb36) Hn1.out hm1 (Hx1.out.bel hb36)).mono ?_
  rintro e w7 ⟨v10, v11, rfl, o10, o11, hb7⟩
  have hb37 := hb36.trans (hb7.mono hb36.size)
  have hB7 := hB3.trans (hb37.mono hB3.size)
  clear q4 q0 q1 q6
  cases hF : fitS g l s with
  | none =>
    have hfe : flErr g s l = 24 := by unfold flErr; rw [if_pos He.out, hF]; rfl
    have hfl : flL g s l = [] := by unfold flL; rw [hfe]; rfl
    have hlo : loL g s l = [] := by unfold loL; rw [hfe]; rfl
    rw [hfe]
    rw [hfl] at o10
    rw [hlo] at o11
    obtain ⟨Al, cl, rfl, _⟩ := o10.rdn 0 rfl
    obtain ⟨Bl, dl, rfl, _⟩ := o11.rdn 0 rfl
    clear o10 o11 hfe hfl hlo hF
    go_wp2_with fail
    go_ret
    exact ⟨rfl, hB7⟩
  | some F =>
    have hfe : flErr g s l = 0 := by unfold flErr; rw [if_pos He.out, hF]; rfl
    have hfl : flL g s l = F := by unfold flL; rw [hfe, hF]; rfl
    have hFl : F.length = n + 1 := by rw [flowsF_len _ _ _ _ hF, Hn.out]
    rw [hfe]
    rw [hfl] at o10
    obtain ⟨Al, cl, rfl, rl⟩ := o10.rdn (n + 1) hFl
    obtain ⟨Bl, dl, rfl, _⟩ := o11.rdn _ rfl
    have hj : x % (n + 1) ≤ n := by have := Nat.mod_lt x (show 0 < n + 1 by omega); omega
    obtain ⟨j, hje⟩ : ∃ j, j = x % (n + 1) := ⟨_, rfl⟩
    rw [← hje] at hj
    have t0 : IntKind.i64.wrap (x : Int) = x := wrapI (by omega)
    have t1 : Int.tmod (x : Int) ((n : Int) + 1) = (j : Int) := by rw [Int.tmod_eq_emod_of_nonneg (by omega), hje]; exact (Int.natCast_emod x (n + 1)).symm
    have t2 : (x : Int) % ((n : Int) + 1) = (j : Int) := by rw [hje]; exact (Int.natCast_emod x (n + 1)).symm
    have nz2 : ¬ (n : Int) + 1 = 0 := by omega
    obtain ⟨bf, of, lo, hi, rfl, hbf, hfj, c0, c1'⟩ := rl.sp (i := j) (by rw [hFl]; omega)
    have hfin := told_fine He.out hF _ (List.mem_of_getElem? hfj)
    obtain ⟨f1, f2, f3⟩ := hfin
    simp only at f1 f2 f3
    have hgd : F.getD j allS = ⟨lo, hi⟩ := by rw [List.getD_eq_getElem?_getD, hfj]; rfl
    have HM := hide (fun v => may_iff (g := g) (s := s) (l := l) (k := j) (F := F) (v := v) He.out (by rw [← Hn1.out]; omega) (by rw [← Hn.out]; exact hj) hF)
    rw [hgd] at HM
    have M1 := hide (decide_eq_true ((HM.out lo).2 ⟨Int.le_refl _, f2⟩))
    have M2 := hide (decide_eq_true ((HM.out hi).2 ⟨f2, Int.le_refl _⟩))
    have M3 := hide (decide_eq_false (fun h => by have := (HM.out (lo - 1)).1 h; unfold inS at this; dsimp only at this; omega))
    have M4 := hide (decide_eq_false (fun h => by have := (HM.out (hi + 1)).1 h; unfold inS at this; dsimp only at this; omega))
    obtain ⟨b13, w8, e13, ew8, x13, hb8, _⟩ := mk_bx w7 #[.int .i64 (j : Int)] 3
    obtain ⟨b15, w9, e15, ew9, x15, hb9, _⟩ := mk_bx w8 #[.int .i64 lo, .int .i64 hi] 24
    have jn : (j : Int) < (n : Int) + 1 := by omega
    have q4 := (X4.out.bel hb37).w1.1
    have p4 := ((X4.out.bel hb37).bel hb8).w1.1
    have q13 := x13.w1.1
    have d0 := (hb8.cell (p := ⟨bf, of + j * 2, none⟩) hbf).trans c0
    have d1 := (hb8.cell (p := ⟨bf, of + j * 2 + 1, none⟩) hbf).trans c1'
    rw [← ew8.out] at q13 d0 d1 p4
    have hmf : ∀ (fn : Fn) (first cap : Array Value) (w : World), (Instr.makeFunc fn first cap).run Try.prog w = .ok (.func fn first cap) w := fun _ _ _ _ => rfl
    have hb39 := hb37.trans ((hb8.trans (hb9.mono hb8.size)).mono hb37.size)
    have hB9 := hB3.trans (hb39.mono hB3.size)
    have k1 : IntKind.i64.wrap (lo - 1) = lo - 1 := wrapI (by omega)
    have k2 : IntKind.i64.wrap (hi + 1) = hi + 1 := wrapI (by omega)
    have X13 := hide (x13.bel hb9); have X15 := hide x15
    have e1315 : b13 + 1 = b15 := by have := e15.out; have := e13.out; rw [← ew8.out] at *; simp at *; omega
    clear hje hfe hfl hFl hgd rl o10 o11 hF c0 c1' hfj HM x13 x15
    go_wp2_with fail
    rw [e13.out, ew8.out, ew9.out, e1315]
    clear q4 p4 q13 d0 d1
    refine (reached1_any A A1 g s l n c n1 c1 j b4 b5 b6 b13 lo w9 Hn.out hm (Hx.out.bel hb39) Hn1.out (by omega) (Hx1.out.bel hb39) (X4.out.bel hb39) (X5.out.bel hb39) (X6.out.bel hb39) (X13.out.bel (Below.refl _ _))).mono ?_
    rintro e wa0 ⟨rfl, ha⟩
    rw [M1.out]
    have h3a0 := hb39.trans (ha.mono hb39.size)
    have h9a0 : Below w9.heap.size w9 wa0 := ha
    obtain ⟨y0, y1, _, _⟩ := (X15.out.bel h9a0).w2
    clear ha
    go_wp2_with fail
    clear y0 y1
    refine (reached1_any A A1 g s l n c n1 c1 j b4 b5 b6 b13 hi wa0 Hn.out hm (Hx.out.bel h3a0) Hn1.out (by omega) (Hx1.out.bel h3a0) (X4.out.bel h3a0) (X5.out.bel h3a0) (X6.out.bel h3a0) (X13.out.bel h9a0)).mono ?_
    rintro e wa1 ⟨rfl, ha⟩
    rw [M2.out]
    have h3a1 := h3a0.trans (ha.mono h3a0.size)
    have h9a1 : Below w9.heap.size w9 wa1 := h9a0.trans (ha.mono h9a0.size)
    obtain ⟨y0, y1, _, _⟩ := (X15.out.bel h9a1).w2
    clear ha
    go_wp2_with fail
    clear y0 y1
    refine (reached1_any A A1 g s l n c n1 c1 j b4 b5 b6 b13 (lo - 1) wa1 Hn.out hm (Hx.out.bel h3a1) Hn1.out (by omega) (Hx1.out.bel h3a1) (X4.out.bel h3a1) (X5.out.bel h3a1) (X6.out.bel h3a1) (X13.out.bel h9a1)).mono ?_
    rintro e wa2 ⟨rfl, ha⟩
    rw [M3.out]
    have h3a2 := h3a1.trans (ha.mono h3a1.size)
    have h9a2 : Below w9.heap.size w9 wa2 := h9a1.trans (ha.mono h9a1.size)
    obtain ⟨y0, y1, _, _⟩ := (X15.out.bel h9a2).w2
    clear ha
    go_wp2_with fail
    clear y0 y1
    refine (reached1_any A A1 g s l n c n1 c1 j b4 b5 b6 b13 (hi + 1) wa2 Hn.out hm (Hx.out.bel h3a2) Hn1.out (by omega) (Hx1.out.bel h3a2) (X4.out.bel h3a2) (X5.out.bel h3a2) (X6.out.bel h3a2) (X13.out.bel h9a2)).mono ?_
    rintro e wa3 ⟨rfl, ha⟩
    rw [M4.out]
    have h3a3 := h3a2.trans (ha.mono h3a2.size)
    have h9a3 : Below w9.heap.size w9 wa3 := h9a2.trans (ha.mono h9a2.size)
    obtain ⟨y0, y1, _, _⟩ := (X15.out.bel h9a3).w2
    clear ha
    go_wp2_with fail
    go_ret
    exact ⟨by first | rfl | simp, hB3.trans (h3a3.mono hB3.size)⟩
set_option maxRecDepth 100000 in
theorem galleryReached_lifted (os : Os) (started : os.Started) (H : Type) (enc : TypeId × Value → H) :
    ReturnsInHanded {} Try.checked os 8 .any (Rows.galleryReachedSpec.pre6 enc Try.prog Try.f8 Rows.galleryReachedRow.domain false) (Rows.galleryReachedSpec.post enc Try.prog Try.f8 false true false false) := by
  refine law_lifted os started H enc (s := Rows.galleryReachedSpec) Try.func8 (by kernel_rfl) ?_ rfl Try.underlying4 rfl (of_decide_eq_true (by kernel_rfl))
    (ChangeSpec.witness6 (enc := enc) (C := Try.checked) false ⟨#[], #[.slice none 0 0, .agg #[.int .i64 0, .int .i64 0], .slice none 0 0, .int .u8 0], []⟩ 8 (by kernel_rfl) (by kernel_rfl) (by kernel_rfl) (by kernel_rfl)) ?_
  · intro ds hds
    match ds, hds with
    | [a, b, c, d], _ => rfl
  · intro W base args ds ps hval hA hlt
    rw [Try.params8] at hA hval
    obtain ⟨v0, v1, v2, v3, d0, d1, d2, d3, p0, p1, p2, p3, rfl, rfl, rfl, h0, h1, h2, h3⟩ := trodAll_four hA
    obtain ⟨A, n, c, g, rfl, hn, hm, hr, _⟩ := open_sl shape_rc Try.underlying22 cells_rc Rc.len (by omega) (hval 0 _ v0 rfl rfl) h0
    obtain ⟨s, rfl, _⟩ := open_val shape_sp Try.underlying24 (hval 1 _ v1 rfl rfl) h1
    obtain ⟨A1, n1, c1, l, rfl, hnl, hm1, hx1, _⟩ := open_sl shape_ga Try.underlying35 cells_ga Ga.len (by omega) (hval 2 _ v2 rfl rfl) h2
    obtain ⟨x, rfl, hx255⟩ := open_u8 (hval 3 _ v3 rfl rfl) h3
    exact reached_walk A A1 g s l n c n1 c1 x W hn hm hr hnl hm1 hx1 hx255

theorem galleryReached_holds : Rows.GalleryReachedSaid :=
  OpenClaim.holds_of_wide 8 Try.f8 rfl rfl rfl rfl rfl rfl rfl ⟨rfl, rfl, rfl, rfl, rfl⟩ rfl rfl rfl rfl rfl (by kernel_rfl) Try.func8 (by kernel_rfl)
    (of_decide_eq_true (by kernel_rfl)) (by unfold Func.isWrapper; rw [if_neg (of_decide_eq_false (by kernel_rfl))]; exact ⟨rfl, rfl⟩)
    (fun os started H enc _ => galleryReached_lifted os started H enc)
#print axioms galleryReached_holds
end Go.Proofs.Ytkmocikcohhdoaa
