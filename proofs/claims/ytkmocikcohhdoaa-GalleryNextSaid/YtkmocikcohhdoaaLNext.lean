/- GalleryNext: wherever the next shaft is measured, no more are left than is told; at each other shaft as many may be left, or more. The law returns true for every gallery, flow in, reach that fell, shafts, numbers and other shaft. No conditions. -/
import Derived.Test.YtkmocikcohhdoaaJ14
import Derived.Test.YtkmocikcohhdoaaJ1
import Derived.Test.YtkmocikcohhdoaaOpenW
import Derived.Deep.Cut
set_option linter.unusedVariables false
set_option linter.unusedSimpArgs false
namespace Go.Proofs.Ytkmocikcohhdoaa
open Go.RowKit Go.Shelf Go.WideShapes Go.ChangeShapes Go.ChangeAt
attribute [local go_sem] ite_min ite_max
set_option maxHeartbeats 40000000 in
set_option maxRecDepth 100000 in
theorem next_walk (A S B : Option Addr) (g : List Rc) (s t : Sp) (sh bys : List Nat) (n c m d nb cb x xo : Nat) (w : World) (hn : n = g.length) (hm : n ≤ 9223372036854775807) (hx : Rd w w.heap.size Rc.cells A g) (hx255 : x ≤ 255)
    (hms : m = sh.length) (hm2 : m ≤ 9223372036854775807) (hs : Rd w w.heap.size u8cell S sh) (h8 : ∀ x ∈ sh, x ≤ 255) (hnb : nb = bys.length) (hnb2 : nb ≤ 9223372036854775807) (hby : Rd w w.heap.size u32cell B bys) (h32 : ∀ x ∈ bys, x ≤ 4294967295) (hxo : xo ≤ 255) :
    Calls Try.prog 10 #[.slice A n c, .agg #[.int .i64 s.lo, .int .i64 s.hi], .agg #[.int .i64 t.lo, .int .i64 t.hi], .int .u8 (x : Int), .slice S m d, .slice B nb cb, .int .u8 (xo : Int)] w fun e w' => e = .returned (.bool true) ∧ Below w.heap.size w w' := by
  obtain ⟨b7, w1, e7, ew1, hx7, hb1, hz1⟩ := mk_bx w #[.slice A n c] 22
  obtain ⟨b8, wa, e8, ew2, hx8, hb2, hz2⟩ := mk_bx w1 #[.int .i64 s.lo, .int .i64 s.hi] 24
  obtain ⟨b9, w2, e9, ew3, hx9, hb3, hz3⟩ := mk_bx wa #[.int .i64 t.lo, .int .i64 t.hi] 24
  have e78 : b7 + 1 = b8 := by have := e8.out; omega
  have e89 : b8 + 1 = b9 := by have := e9.out; omega
  have hBa := hb1.trans (hb2.mono hb1.size)
  have hB2 := hBa.trans (hb3.mono hBa.size)
  have Hn := hide hn; have Hm := hide hms; have Hnb := hide hnb; have H8 := hide h8; have H32 := hide h32
  have rg := hx.bel hB2; have rsh := hs.bel hB2; have rby := hby.bel hB2
  replace hx7 := (hx7.bel hb2).bel hb3; replace hx8 := hx8.bel hb3
  clear hn hms hnb h8 h32 hx hs hby hz1 hz2 hz3 hb1 hb2 hb3 hBa
  go_enter Try.func10, Try.ntmps10
  go_wp2_with fail
  rw [ew1.out, e7.out, e78, ew2.out, e89, ew3.out]
  refine (galive_any _).mono ?_
  rintro e w3 ⟨rfl, hb3⟩
  have hB3 := hB2.trans (hb3.mono hB2.size)
  replace hx7 := hx7.bel hb3; replace hx8 := hx8.bel hb3; replace hx9 := hx9.bel hb3
  replace rg := rg.bel hb3; replace rsh := rsh.bel hb3; replace rby := rby.bel hb3
  have x7 := hx7.w1.1
  obtain ⟨q0, q1, _, _⟩ := hx8.w2
  go_wp2_with fail
  refine (gready_any A g s n c w3 Hn.out hm rg).mono ?_
  rintro e w4 ⟨rfl, hb4⟩
  have hB4 := hB3.trans (hb4.mono hB3.size)
  replace hx7 := hx7.bel hb4; replace hx8 := hx8.bel hb4; replace hx9 := hx9.bel hb4
  replace rg := rg.bel hb4; replace rsh := rsh.bel hb4; replace rby := rby.bel hb4
  clear x7 q0 q1 hb3 hb4 hB3 hB2
  cases hok : gOk g && Sp.ok 0 1000000 s
  · clear hok
    go_wp2_with fail
    go_ret
    exact ⟨rfl, hB4⟩
  obtain ⟨hg, hso⟩ := (Bool.and_eq_true _ _).mp hok
  have hgl := gOk_len hg
  have hn12 : n ≤ 12 := by rw [Hn.out]; exact hgl.2
  have hn1 : 1 ≤ n := by rw [Hn.out]; exact hgl.1
  have Hg := hide hg; have Hso := hide hso; have Hs1 := hide (okS_fine hso)
  clear hok hg hso hgl
  obtain ⟨p0, p1, _, _⟩ := hx9.w2
  go_wp2_with fail
  refine (spanned_any _ _ _ _ _).mono ?_
  rintro e w5 ⟨rfl, hb5⟩
  have hB5 := hB4.trans (hb5.mono hB4.size)
  replace hx7 := hx7.bel hb5; replace hx8 := hx8.bel hb5; replace hx9 := hx9.bel hb5
  replace rg := rg.bel hb5; replace rsh := rsh.bel hb5; replace rby := rby.bel hb5
  clear p0 p1 hb5 hB4
  cases hto : Sp.ok 0 1000000 ⟨t.lo, t.hi⟩
  · clear hto
    go_wp2_with fail
    go_ret
    exact ⟨rfl, hB5⟩
  have Hto : Hid (Sp.ok 0 1000000 t = true) := hide hto
  have Ht1 := hide (okS_fine Hto.out)
  clear hto
  by_cases h30 : 30 ≤ m
  · go_wp2_with fail
    go_ret
    exact ⟨rfl, hB5⟩
  have hm29 : m ≤ 29 := by omega
  have h30f : ¬ 30 ≤ m := h30
  have X7 := hide hx7; have X8 := hide hx8; have X9 := hide hx9; have Hx := hide rg; have Hsh := hide rsh; have Hby := hide rby
  obtain ⟨k, hk0⟩ : ∃ k, k = x % n := ⟨_, rfl⟩
  have hk : k < n := by rw [hk0]; exact Nat.mod_lt _ hn1
  have hke : (x : Int) % (n : Int) = (k : Int) := by rw [hk0]; exact (Int.natCast_emod x n).symm
  have hnz : ¬ (n : Int) = 0 := by omega
  obtain ⟨w4, rfl⟩ : ∃ w4, w4 = w5 := ⟨w5, rfl⟩
  have x7 := X7.out.w1.1
  clear h30 hx7 hx8 hx9 rg rsh rby hk0
  go_wp2_with fail
  rw [hke]
  clear hke x7
  refine wp_region_held_drew (S := (fun W => Below w4.heap.size w4 W)) (by kernel_rfl) (by (try dsimp only); exact (Below.refl _ _).drew) (fun hHeld => ?_)
  generalize World.drew w4 = Wd7 at hHeld ⊢
  have hbc := Below.refl Wd7.heap.size Wd7
  refine wpAnyH_take (i := 0) (oi := ⟨_, _, _, _, _, _⟩) (v := ?_) rfl (by kernel_rfl) (by kernel_rfl) (by kernel_rfl) (fun _ _ _ h => h) (Or.inl ⟨by rfl, ?_⟩) hHeld ?_
  rotate_left
  · (intro w hSw; (try dsimp only at hSw); have x7 := (X7.out.bel hSw).at_.c1; obtain ⟨p0, p1, _, _⟩ := (X9.out.bel hSw).w2; obtain ⟨q0, q1, _, _⟩ := (X8.out.bel hSw).w2; go_simp; try (with_reducible rfl))
  try simp only [Act.put, List.setIfInBounds_toArray, List.set_cons_zero, List.set_cons_succ]
  refine wpAnyH_take (i := 1) (oi := ⟨_, _, _, _, _, _⟩) (v := ?_) rfl (by kernel_rfl) (by kernel_rfl) (by kernel_rfl) (fun _ _ _ h => h) (Or.inl ⟨by rfl, ?_⟩) hHeld ?_
  rotate_left
  · (intro w hSw; (try dsimp only at hSw); go_simp; try (with_reducible rfl))
  try simp only [Act.put, List.setIfInBounds_toArray, List.set_cons_zero, List.set_cons_succ]
  refine wpAnyH_take (i := 2) (oi := ⟨_, _, _, _, _, _⟩) (v := ?_) rfl (by kernel_rfl) (by kernel_rfl) (by kernel_rfl) (fun _ _ _ h => h) (Or.inl ⟨by rfl, ?_⟩) hHeld ?_
  rotate_left
  · (intro w hSw; (try dsimp only at hSw); have x7 := (X7.out.bel hSw).at_.c1; obtain ⟨p0, p1, _, _⟩ := (X9.out.bel hSw).w2; obtain ⟨q0, q1, _, _⟩ := (X8.out.bel hSw).w2; go_simp; try (with_reducible rfl))
  try simp only [Act.put, List.setIfInBounds_toArray, List.set_cons_zero, List.set_cons_succ]
  refine wpAnyH_take (i := 4) (oi := ⟨_, _, _, _, _, _⟩) (v := ?_) rfl (by kernel_rfl) (by kernel_rfl) (by kernel_rfl) (fun _ _ _ h => h) (Or.inl ⟨by rfl, ?_⟩) hHeld ?_
  rotate_left
  · (intro w hSw; (try dsimp only at hSw); have x7 := (X7.out.bel hSw).at_.c1; obtain ⟨p0, p1, _, _⟩ := (X9.out.bel hSw).w2; obtain ⟨q0, q1, _, _⟩ := (X8.out.bel hSw).w2; go_simp; try (with_reducible rfl))
  try simp only [Act.put, List.setIfInBounds_toArray, List.set_cons_zero, List.set_cons_succ]
  refine wpAnyH_take (i := 5) (oi := ⟨_, _, _, _, _, _⟩) (v := ?_) rfl (by kernel_rfl) (by kernel_rfl) (by kernel_rfl) (fun _ _ _ h => h) (Or.inl ⟨by rfl, ?_⟩) hHeld ?_
  rotate_left
  · (intro w hSw; (try dsimp only at hSw); go_simp; try (with_reducible rfl))
  try simp only [Act.put, List.setIfInBounds_toArray, List.set_cons_zero, List.set_cons_succ]
  refine wpAnyH_ready (rs := [3]) (by kernel_rfl) (by simp) ?_
  refine AllReadyH.cons (o := ⟨_, _, _, _, _, _⟩) rfl (fun K hK => ?_) AllReadyH.nil
  go_simp
  refine (rfallen_any A g t k n c _ Hn.out hk (by omega) ((Hx.out.below hHeld).more hHeld.size)).mono ?_
  rintro e V59 ⟨q54, c54, rfl, o54, hb⟩
  go_wp2_with fail
  have hHeldN := hHeld.trans (hb.mono hHeld.size)
  have hbc := hbc.trans (hb.mono hbc.size)
  refine hK.out _ _ ?_ (fun hHeld2 => ?_)
  · exact hHeldN
  clear hK K hHeld hHeldN hb; have hHeld := hHeld2; clear hHeld2
  try simp only [Act.put, List.setIfInBounds_toArray, List.set_cons_zero, List.set_cons_succ]
  refine wpAnyH_ready (rs := [6]) (by kernel_rfl) (by simp) ?_
  refine AllReadyH.cons (o := ⟨_, _, _, _, _, _⟩) rfl (fun K hK => ?_) AllReadyH.nil
  obtain ⟨_, _, ec54, r54⟩ := o54.rdn n (by rw [fallS_len]; exact Hn.out.symm)
  injection ec54 with e1 e2 e3
  subst e1; subst e3
  go_simp
  refine (runs_any (some ⟨q54, 0, none⟩) B (fallS g k t) s bys n c54 nb cb _ (by rw [fallS_len]; exact Hn.out) (by omega) r54 Hnb.out hnb2 ((Hby.out.below hHeld).more hHeld.size) H32.out (fallS_fine (gOk_fine Hg.out) Ht1.out) Hs1.out).mono ?_
  rintro e V62 ⟨A1, c1, A2, c2, A3, c3, fs, ls, gs, rfl, hRP, r1, r2, r3, hb⟩
  go_wp2_with fail
  have hHeldN := hHeld.trans (hb.mono hHeld.size)
  have o54 := o54.bel hb
  have hbc := hbc.trans (hb.mono hbc.size)
  refine hK.out _ _ ?_ (fun hHeld2 => ?_)
  · exact hHeldN
  clear hK K hHeld hHeldN hb; have hHeld := hHeld2; clear hHeld2
  try simp only [Act.put, List.setIfInBounds_toArray, List.set_cons_zero, List.set_cons_succ]
  refine wpAnyH_take (i := 7) (oi := ⟨_, _, _, _, _, _⟩) (v := ?_) rfl (by kernel_rfl) (by kernel_rfl) (by kernel_rfl) (fun _ _ _ h => h) (Or.inl ⟨by rfl, ?_⟩) hHeld ?_
  rotate_left
  · (intro w hSw; (try dsimp only at hSw); go_simp; try (with_reducible rfl))
  try simp only [Act.put, List.setIfInBounds_toArray, List.set_cons_zero, List.set_cons_succ]
  refine wpAnyH_take (i := 8) (oi := ⟨_, _, _, _, _, _⟩) (v := ?_) rfl (by kernel_rfl) (by kernel_rfl) (by kernel_rfl) (fun _ _ _ h => h) (Or.inl ⟨by rfl, ?_⟩) hHeld ?_
  rotate_left
  · (intro w hSw; (try dsimp only at hSw); go_simp; try (with_reducible rfl))
  try simp only [Act.put, List.setIfInBounds_toArray, List.set_cons_zero, List.set_cons_succ]
  refine wpAnyH_take (i := 9) (oi := ⟨_, _, _, _, _, _⟩) (v := ?_) rfl (by kernel_rfl) (by kernel_rfl) (by kernel_rfl) (fun _ _ _ h => h) (Or.inl ⟨by rfl, ?_⟩) hHeld ?_
  rotate_left
  · (intro w hSw; (try dsimp only at hSw); go_simp; try (with_reducible rfl))
  try simp only [Act.put, List.setIfInBounds_toArray, List.set_cons_zero, List.set_cons_succ]
  refine wpAnyH_take (i := 10) (oi := ⟨_, _, _, _, _, _⟩) (v := ?_) rfl (by kernel_rfl) (by kernel_rfl) (by kernel_rfl) (fun _ _ _ h => h) (Or.inl ⟨by rfl, ?_⟩) hHeld ?_
  rotate_left
  · (intro w hSw; (try dsimp only at hSw); go_simp; try (with_reducible rfl))
  try simp only [Act.put, List.setIfInBounds_toArray, List.set_cons_zero, List.set_cons_succ]
  refine wpAnyH_take (i := 11) (oi := ⟨_, _, _, _, _, _⟩) (v := ?_) rfl (by kernel_rfl) (by kernel_rfl) (by kernel_rfl) (fun _ _ _ h => h) (Or.inl ⟨by rfl, ?_⟩) hHeld ?_
  rotate_left
  · (intro w hSw; (try dsimp only at hSw); go_simp; try (with_reducible rfl))
  try simp only [Act.put, List.setIfInBounds_toArray, List.set_cons_zero, List.set_cons_succ]
  refine wpAnyH_take (i := 12) (oi := ⟨_, _, _, _, _, _⟩) (v := ?_) rfl (by kernel_rfl) (by kernel_rfl) (by kernel_rfl) (fun _ _ _ h => h) (Or.inl ⟨by rfl, ?_⟩) hHeld ?_
  rotate_left
  · (intro w hSw; (try dsimp only at hSw); go_simp; try (with_reducible rfl))
  try simp only [Act.put, List.setIfInBounds_toArray, List.set_cons_zero, List.set_cons_succ]
  refine wpAnyH_take (i := 13) (oi := ⟨_, _, _, _, _, _⟩) (v := ?_) rfl (by kernel_rfl) (by kernel_rfl) (by kernel_rfl) (fun _ _ _ h => h) (Or.inl ⟨by rfl, ?_⟩) hHeld ?_
  rotate_left
  · (intro w hSw; (try dsimp only at hSw); go_simp; try (with_reducible rfl))
  try simp only [Act.put, List.setIfInBounds_toArray, List.set_cons_zero, List.set_cons_succ]
  refine wpAnyH_done (by kernel_rfl) ?_ _
  have hw4 := hHeld
  have HRP := hide hRP
  clear hRP hbc hHeld r54 o54 h30f
  have Hgv : Hid (∀ l : List Ga, SeenP n fs l → ∀ x ∈ l, (0 ≤ x.shaft ∧ x.shaft ≤ g.length) ∧ x.flow.fine 13000000) := hide fun l hl => seen_ok Hn.out hl
  obtain ⟨w6, rfl⟩ : ∃ w6, w6 = V62 := ⟨V62, rfl⟩
  go_wp2_with fail
  refine (seen_any A1 S B fs sh bys n c1 m d nb cb _ HRP.out.lf.symm (by omega) (r1.more (Nat.le_refl _)) (by intro j hj; exact HRP.out.bd j hj) Hm.out hm2 (Hsh.out.bel hw4) H8.out Hnb.out hnb2 (Hby.out.bel hw4) H32.out).mono ?_
  rintro e w7 ⟨Al, cl, l, rfl, hl30, hlsh, hSP, rl, hb7⟩
  have h47 := hw4.trans (hb7.mono hw4.size)
  have hl29 : l.length ≤ 29 := by have := Hm.out; omega
  obtain ⟨F, hfit, hin⟩ := fall_fits Hg.out Hto.out HRP.out Hn.out hSP
  have hv := Hgv.out l hSP
  obtain ⟨hE, hL, hW, hpos⟩ := fall_told Hg.out Hso.out Hto.out (by rw [← Hn.out]; exact hk) hl30 hv (by rw [hfit]; rfl)
  have hns : nextS g s l t = nextGo g s l t (g.length + 1) := by unfold nextS; rw [if_pos hE]
  obtain ⟨nb1, nb2, nb3⟩ := nextGo_best (g := g) (s := s) (l := l) (t := t) (g.length + 1) (by omega)
  obtain ⟨sh_, lf_, hgo⟩ : ∃ a b, nextGo g s l t (g.length + 1) = (a, b) := ⟨_, _, rfl⟩
  rw [hgo] at hns nb1 nb2 nb3
  dsimp only at nb1 nb2 nb3
  have hshn : sh_ ≤ n := by rw [Hn.out]; omega
  have hlpos : 1 ≤ lf_ := by rw [nb2]; exact crowd_pos (gOk_fine Hg.out) Ht1.out (by rw [← Hn.out]; exact hshn) hpos
  have hlle : lf_ ≤ (falN g s l t g.length).length := by have := crowd_len (hereK g s l t sh_); rw [hereK_len, ← nb2] at this; exact this
  obtain ⟨b20, w8, e20, ew8, hx20, hb8, hz8⟩ := mk_bx w7 #[.slice Al l.length cl] 35
  have h48 := h47.trans (hb8.mono h47.size)
  have Hrl8 := hide (rl.bel hb8); have Hr18 := hide ((r1.bel hb7).bel hb8)
  have HE := hide hE; have HL := hide hL; have Hns := hide hns; have Hnb2' := hide nb2; have Hnb3 := hide nb3; have Hfit := hide hfit; have Hin := hide hin; have Hv := hide hv
  clear hE hL hW hns nb2 nb3 hgo hfit hin hv Hgv hSP r1 r2 r3 rl hz8 hpos nb1
  have x7 := (X7.out.bel h48).w1.1
  obtain ⟨q0, q1, _, _⟩ := (X8.out.bel h48).w2
  obtain ⟨p0, p1, _, _⟩ := (X9.out.bel h48).w2
  have x20 := hx20.w1.1
  rw [← ew8.out] at x7 q0 q1 p0 p1 x20
  rw [← e20.out] at x20
  go_wp2_with fail
  rw [ew8.out, e20.out]
  clear x7 q0 q1 p0 p1 x20 ew8
  refine (next_any A Al g s l t n c l.length cl w8 Hn.out hm (Hx.out.bel h48) rfl (by omega) Hrl8.out).mono ?_
  rintro e w9 ⟨rfl, hb9⟩
  rw [Hns.out, HE.out]
  dsimp only
  have h49 := h48.trans (hb9.mono h48.size)
  have x7 := (X7.out.bel h49).w1.1
  obtain ⟨q0, q1, _, _⟩ := (X8.out.bel h49).w2
  obtain ⟨p0, p1, _, _⟩ := (X9.out.bel h49).w2
  have x20 := (hx20.bel hb9).w1.1
  go_wp2_with fail
  refine (falls_any A Al g s l t n c l.length cl w9 Hn.out hm (Hx.out.bel h49) rfl (by omega) (Hrl8.out.bel hb9)).mono ?_
  rintro e w10 ⟨v24, rfl, o24, hb10⟩
  rw [HE.out]
  rw [HL.out] at o24
  obtain ⟨nl, hnl⟩ : ∃ nl, nl = ((falN g s l t g.length).map Int.ofNat).length := ⟨_, rfl⟩
  have hlnl : lf_ ≤ nl := by rw [hnl, List.length_map]; exact hlle
  have hnl12 : nl ≤ 12 := by have := falN_len (g := g) (s := s) (l := l) (t := t) g.length; rw [hnl, List.length_map]; have := Hn.out; omega
  obtain ⟨Ai, ci, rfl, ri⟩ := o24.rdn nl hnl.symm
  have h4x := h49.trans (hb10.mono h49.size)
  obtain ⟨b24, w11, e24, ew24, hx24, hb11, hz11⟩ := mk_bx w10 #[.slice Ai nl ci] 26
  obtain ⟨b27, wA, e27, ew27, hx27, hb12, hz12⟩ := mk_bx w11 #[.func (.func 42) #[] #[.pointer (some ⟨b7, 0, none⟩), .pointer (some ⟨b8, 0, none⟩), .pointer (some ⟨b20, 0, none⟩), .pointer (some ⟨b9, 0, none⟩)]] 79
  have h411 := h4x.trans (hb11.mono h4x.size)
  have h4A := h411.trans (hb12.mono h411.size)
  have h8A := ((hb9.trans (hb10.mono hb9.size)).trans (hb11.mono (hb9.trans (hb10.mono hb9.size)).size))
  have h8A2 := h8A.trans (hb12.mono h8A.size)
  have X7A := hide (X7.out.bel h4A); have X8A := hide (X8.out.bel h4A); have X9A := hide (X9.out.bel h4A); have X20A := hide (hx20.bel h8A2); have X24A := hide (hx24.bel hb12); have X27A := hide hx27
  have HxA := hide (Hx.out.bel h4A); have HrlA := hide (Hrl8.out.bel h8A2); have Hr1A := hide (Hr18.out.bel h8A2); have Hnl := hide hnl; have HriA := hide ((ri.bel hb11).bel hb12)
  have HBA := hide (hB5.trans (h4A.mono hB5.size))
  clear x7 q0 q1 p0 p1 x20 o24 hnl ri hz11 hz12 hx20 hlle
  have x7 := (X7.out.bel h411).w1.1
  have x24 := hx24.w1.1
  rw [← ew24.out] at x7 x24
  rw [← e24.out] at x24
  have hsn : ¬ (n : Int) < (sh_ : Int) := by omega
  have hs0 : ¬ (sh_ : Int) < 0 := by omega
  have hl1 : ¬ (lf_ : Int) < 1 := by omega
  have hl2 : ¬ (nl : Int) < (lf_ : Int) := by omega
  have e2427 : b24 + 1 = b27 := by have := e24.out; have := e27.out; rw [← ew24.out] at this; simp at this; omega
  go_wp2_with fail
  rw [ew24.out, ew27.out, e24.out, e2427]
  clear ew24 ew27 e24 e27 x7 x24 hx24 hx27 hb10 hb11 hb12
  obtain ⟨bf, of_, fx, rfl, hbf, hfx, cfx⟩ := Hr1A.out.int (i := sh_) (by rw [HRP.out.lf]; omega)
  have hfx2 : fs.getD sh_ 0 = fx := by rw [List.getD_eq_getElem?_getD, hfx]; rfl
  have hfb := HRP.out.bd sh_ hshn
  rw [hfx2] at hfb
  have hfx0 : 0 ≤ fx := hfb.1
  have hfx1 : fx ≤ 13000000 := by omega
  have hin := Hin.out sh_ hshn
  rw [hfx2] at hin
  have hmem : F.getD sh_ allS ∈ hereK g s l t sh_ := by
    unfold hereK
    refine List.mem_map.2 ⟨k, mem_falN.2 ⟨by rw [← Hn.out]; exact hk, by rw [Hfit.out]; rfl⟩, by rw [Hfit.out]; rfl⟩
  have hh1 := holds_one hmem hin.1 hin.2
  have hh2 : holds (hereK g s l t sh_) fx ≤ lf_ := by rw [Hnb2'.out]; exact holds_le _ _
  have ish : (sh_ : Int) < (n : Int) + 1 := by omega
  clear hfx hfx2 hfb hin hmem
  refine wp_region_held_drew (S := (fun W => Below wA.heap.size wA W)) (by kernel_rfl) (by (try dsimp only); exact (Below.refl _ _).drew) (fun hHeld => ?_)
  generalize World.drew wA = Wd14 at hHeld ⊢
  have hbc := Below.refl Wd14.heap.size Wd14
  refine wpAnyH_take (i := 0) (oi := ⟨_, _, _, _, _, _⟩) (v := ?_) rfl (by kernel_rfl) (by kernel_rfl) (by kernel_rfl) (fun _ _ _ h => h) (Or.inl ⟨by rfl, ?_⟩) hHeld ?_
  rotate_left
  · (intro w hSw; (try dsimp only at hSw); have x27 := (X27A.out.bel hSw).at_.c1; have z0 := (hSw.cell (p := ⟨bf, of_ + sh_, none⟩) hbf).trans cfx; go_simp; try (with_reducible rfl))
  try simp only [Act.put, List.setIfInBounds_toArray, List.set_cons_zero, List.set_cons_succ]
  refine wpAnyH_take (i := 1) (oi := ⟨_, _, _, _, _, _⟩) (v := ?_) rfl (by kernel_rfl) (by kernel_rfl) (by kernel_rfl) (fun _ _ _ h => h) (Or.inl ⟨by rfl, ?_⟩) hHeld ?_
  rotate_left
  · (intro w hSw; (try dsimp only at hSw); go_simp; try (with_reducible rfl))
  try simp only [Act.put, List.setIfInBounds_toArray, List.set_cons_zero, List.set_cons_succ]
  refine wpAnyH_take (i := 2) (oi := ⟨_, _, _, _, _, _⟩) (v := ?_) rfl (by kernel_rfl) (by kernel_rfl) (by kernel_rfl) (fun _ _ _ h => h) (Or.inl ⟨by rfl, ?_⟩) hHeld ?_
  rotate_left
  · (intro w hSw; (try dsimp only at hSw); go_simp; try (with_reducible rfl))
  try simp only [Act.put, List.setIfInBounds_toArray, List.set_cons_zero, List.set_cons_succ]
  refine wpAnyH_take (i := 3) (oi := ⟨_, _, _, _, _, _⟩) (v := ?_) rfl (by kernel_rfl) (by kernel_rfl) (by kernel_rfl) (fun _ _ _ h => h) (Or.inl ⟨by rfl, ?_⟩) hHeld ?_
  rotate_left
  · (intro w hSw; (try dsimp only at hSw); go_simp; try (with_reducible rfl))
  try simp only [Act.put, List.setIfInBounds_toArray, List.set_cons_zero, List.set_cons_succ]
  refine wpAnyH_take (i := 4) (oi := ⟨_, _, _, _, _, _⟩) (v := ?_) rfl (by kernel_rfl) (by kernel_rfl) (by kernel_rfl) (fun _ _ _ h => h) (Or.inl ⟨by rfl, ?_⟩) hHeld ?_
  rotate_left
  · (intro w hSw; (try dsimp only at hSw); go_simp; try (with_reducible rfl))
  try simp only [Act.put, List.setIfInBounds_toArray, List.set_cons_zero, List.set_cons_succ]
  refine wpAnyH_take (i := 5) (oi := ⟨_, _, _, _, _, _⟩) (v := ?_) rfl (by kernel_rfl) (by kernel_rfl) (by kernel_rfl) (fun _ _ _ h => h) (Or.inl ⟨by rfl, ?_⟩) hHeld ?_
  rotate_left
  · (intro w hSw; (try dsimp only at hSw); have x27 := (X27A.out.bel hSw).at_.c1; have z0 := (hSw.cell (p := ⟨bf, of_ + sh_, none⟩) hbf).trans cfx; go_simp; try (with_reducible rfl))
  try simp only [Act.put, List.setIfInBounds_toArray, List.set_cons_zero, List.set_cons_succ]
  refine wpAnyH_ready (rs := [6]) (by kernel_rfl) (by simp) ?_
  refine AllReadyH.cons (o := ⟨_, _, _, _, _, _⟩) rfl (fun K hK => ?_) AllReadyH.nil
  go_simp
  refine (stays_any A Al g s l t n c l.length cl sh_ b7 b8 b20 b9 fx _ Hn.out hn12 ((HxA.out.below hHeld).more hHeld.size) rfl hl29 ((HrlA.out.below hHeld).more hHeld.size) (X7A.out.bel hHeld) (X8A.out.bel hHeld) (X20A.out.bel hHeld) (X9A.out.bel hHeld) Hg.out Hso.out Hto.out Hv.out hshn hfx0 hfx1).mono ?_
  rintro e V121 ⟨rfl, hb⟩
  go_wp2_with fail
  have hHeldN := hHeld.trans (hb.mono hHeld.size)
  have hbc := hbc.trans (hb.mono hbc.size)
  refine hK.out _ _ ?_ (fun hHeld2 => ?_)
  · exact hHeldN
  clear hK K hHeld hHeldN hb; have hHeld := hHeld2; clear hHeld2
  try simp only [Act.put, List.setIfInBounds_toArray, List.set_cons_zero, List.set_cons_succ]
  refine wpAnyH_take (i := 7) (oi := ⟨_, _, _, _, _, _⟩) (v := ?_) rfl (by kernel_rfl) (by kernel_rfl) (by kernel_rfl) (fun _ _ _ h => h) (Or.inl ⟨by rfl, ?_⟩) hHeld ?_
  rotate_left
  · (intro w hSw; (try dsimp only at hSw); go_simp; try (with_reducible rfl))
  try simp only [Act.put, List.setIfInBounds_toArray, List.set_cons_zero, List.set_cons_succ]
  refine wpAnyH_done (by kernel_rfl) ?_ _
  obtain ⟨h, hh⟩ : ∃ h, h = holds (hereK g s l t sh_) fx := ⟨_, rfl⟩
  rw [← hh] at hh1 hh2 ⊢
  have HBd := hide hHeld
  obtain ⟨o, ho0⟩ : ∃ o, o = xo % (n + 1) := ⟨_, rfl⟩
  have ho : o ≤ n := by rw [ho0]; have := Nat.mod_lt xo (show 0 < n + 1 by omega); omega
  have hoe : (xo : Int) % ((n : Int) + 1) = (o : Int) := by rw [ho0]; have h0 := (Int.natCast_emod xo (n + 1)).symm; rw [Int.natCast_add] at h0; exact h0
  have hnz2 : ¬ (n : Int) + 1 = 0 := by omega
  have hB3 := Hnb3.out o (by have := Hn.out; omega)
  obtain ⟨wD, rfl⟩ : ∃ wD, wD = V121 := ⟨V121, rfl⟩
  have x7 := (X7A.out.bel HBd.out).w1.1
  clear hh ho0 hHeld hbc
  go_wp2_with fail
  rw [hoe]
  clear hoe
  refine (mostn_any A Al Ai g s l t n c l.length cl nl ci o b7 b8 b20 b9 b24 b27 wD Hn.out hn12 (HxA.out.bel HBd.out) rfl hl29 (HrlA.out.bel HBd.out) Hnl.out (HriA.out.bel HBd.out) (X7A.out.bel HBd.out) (X8A.out.bel HBd.out) (X20A.out.bel HBd.out) (X9A.out.bel HBd.out) (X24A.out.bel HBd.out) (X27A.out.bel HBd.out) Hg.out Hso.out Hto.out Hv.out ho).mono ?_
  rintro e wE ⟨rfl, hbE⟩
  have HBE := hide (HBd.out.trans (hbE.mono HBd.out.size))
  obtain ⟨co, hco⟩ : ∃ co, co = crowdS (hereK g s l t o) := ⟨_, rfl⟩
  rw [← hco] at hB3 ⊢
  obtain ⟨ho1, ho2⟩ := hB3
  clear hco x7
  have hcoge : (lf_ : Int) ≤ (co : Int) := by omega
  by_cases hos : sh_ ≤ o
  · clear ho2
    go_wp2_with fail
    refine (mostn_any A Al Ai g s l t n c l.length cl nl ci sh_ b7 b8 b20 b9 b24 b27 wE Hn.out hn12 (HxA.out.bel HBE.out) rfl hl29 (HrlA.out.bel HBE.out) Hnl.out (HriA.out.bel HBE.out) (X7A.out.bel HBE.out) (X8A.out.bel HBE.out) (X20A.out.bel HBE.out) (X9A.out.bel HBE.out) (X24A.out.bel HBE.out) (X27A.out.bel HBE.out) Hg.out Hso.out Hto.out Hv.out hshn).mono ?_
    rintro e wF ⟨rfl, hbF⟩
    rw [← Hnb2'.out]
    go_wp2_with fail
    go_ret
    exact ⟨by first | rfl | simp, HBA.out.trans ((HBE.out.trans (hbF.mono HBE.out.size)).mono HBA.out.size)⟩
  · have ho3 : (lf_ : Int) < (co : Int) := by have := ho2 (by omega); omega
    clear ho2
    go_wp2_with fail
    refine (mostn_any A Al Ai g s l t n c l.length cl nl ci sh_ b7 b8 b20 b9 b24 b27 wE Hn.out hn12 (HxA.out.bel HBE.out) rfl hl29 (HrlA.out.bel HBE.out) Hnl.out (HriA.out.bel HBE.out) (X7A.out.bel HBE.out) (X8A.out.bel HBE.out) (X20A.out.bel HBE.out) (X9A.out.bel HBE.out) (X24A.out.bel HBE.out) (X27A.out.bel HBE.out) Hg.out Hso.out Hto.out Hv.out hshn).mono ?_
    rintro e wF ⟨rfl, hbF⟩
    rw [← Hnb2'.out]
    go_wp2_with fail
    go_ret
    exact ⟨by first | rfl | simp, HBA.out.trans ((HBE.out.trans (hbF.mono HBE.out.size)).mono HBA.out.size)⟩
set_option maxRecDepth 100000 in
theorem galleryNext_lifted (os : Os) (started : os.Started) (H : Type) (enc : TypeId × Value → H) :
    ReturnsInHanded {} Try.checked os 10 .any (Rows.galleryNextSpec.pre6 enc Try.prog Try.f10 Rows.galleryNextRow.domain false) (Rows.galleryNextSpec.post enc Try.prog Try.f10 false true false false) := by
  refine law_lifted os started H enc (s := Rows.galleryNextSpec) Try.func10 (by kernel_rfl) ?_ rfl Try.underlying4 rfl (of_decide_eq_true (by kernel_rfl))
    (ChangeSpec.witness6 (enc := enc) (C := Try.checked) false ⟨#[], #[.slice none 0 0, .agg #[.int .i64 0, .int .i64 0], .agg #[.int .i64 0, .int .i64 0], .int .u8 0, .slice none 0 0, .slice none 0 0, .int .u8 0], []⟩ 8 (by kernel_rfl) (by kernel_rfl) (by kernel_rfl) (by kernel_rfl)) ?_
  · intro ds hds
    match ds, hds with
    | [a, b, c, d, e, f, g], _ => rfl
  · intro W base args ds ps hval hA hlt
    rw [Try.params10] at hA hval
    obtain ⟨v0, v1, v2, v3, v4, v5, v6, d0, d1, d2, d3, d4, d5, d6, p0, p1, p2, p3, p4, p5, p6, rfl, rfl, rfl, h0, h1, h2, h3, h4, h5, h6⟩ := trodAll_seven hA
    obtain ⟨A, n, c, g, rfl, hn, hm, hr, _⟩ := open_sl shape_rc Try.underlying22 cells_rc Rc.len (by omega) (hval 0 _ v0 rfl rfl) h0
    obtain ⟨s, rfl, _⟩ := open_val shape_sp Try.underlying24 (hval 1 _ v1 rfl rfl) h1
    obtain ⟨t, rfl, _⟩ := open_val shape_sp Try.underlying24 (hval 2 _ v2 rfl rfl) h2
    obtain ⟨x, rfl, hx255⟩ := open_u8 (hval 3 _ v3 rfl rfl) h3
    obtain ⟨S, m, d, sh, rfl, hms, hm2, hs, h8⟩ := open_sl shape_u8 Try.underlying66 cells_u8 u8cell_len (by omega) (hval 4 _ v4 rfl rfl) h4
    obtain ⟨B, nb, cb, bys, rfl, hnb, hnb2, hby, h32⟩ := open_sl shape_u32 Try.underlying67 cells_u32 u32cell_len (by omega) (hval 5 _ v5 rfl rfl) h5
    obtain ⟨xo, rfl, hxo⟩ := open_u8 (hval 6 _ v6 rfl rfl) h6
    exact next_walk A S B g s t sh bys n c m d nb cb x xo W hn hm hr hx255 hms hm2 hs h8 hnb hnb2 hby h32 hxo

theorem galleryNext_holds : Rows.GalleryNextSaid :=
  OpenClaim.holds_of_wide 10 Try.f10 rfl rfl rfl rfl rfl rfl rfl ⟨rfl, rfl, rfl, rfl, rfl⟩ rfl rfl rfl rfl rfl (by kernel_rfl) Try.func10 (by kernel_rfl)
    (of_decide_eq_true (by kernel_rfl)) (by unfold Func.isWrapper; rw [if_neg (of_decide_eq_false (by kernel_rfl))]; exact ⟨rfl, rfl⟩)
    (fun os started H enc _ => galleryNext_lifted os started H enc)
#print axioms galleryNext_holds
end Go.Proofs.Ytkmocikcohhdoaa
