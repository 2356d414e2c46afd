/- GalleryFall: a fall of the gallery is located: the reach in which it is in truth is suspected, and each one that is suspected may be it. The law returns true for every gallery, flow in, reach that fell, shafts and numbers. No conditions. -/
import Derived.Test.YtkmocikcohhdoaaJ9
import Derived.Test.YtkmocikcohhdoaaJ1
import Derived.Test.YtkmocikcohhdoaaH7
import Derived.Test.YtkmocikcohhdoaaF17
import Derived.Deep.Cut
set_option linter.unusedVariables false
set_option linter.unusedSimpArgs false
namespace Go.Proofs.Ytkmocikcohhdoaa
open Go.RowKit Go.Shelf Go.WideShapes Go.ChangeShapes Go.ChangeAt
theorem mapB : MapLaw Try.prog 77 3 4 Value.bool ldB (fun _ => True) false :=
  mapLaw_bool Try.underlying3 Try.underlying77 Try.underlying4 (fun w => by kernel_rfl)
/-- A lookup under a guard that holds. -/
theorem wpList_mapReadG {β : Type} {P : Program} {T K E : TypeId} {el : β → Value} {ld : β → DataW Unit} {ok : β → Prop} {z0 : β} {w : World} {b n s : Nat} {f : Int → Option β} {ops : Array Oper} {rest : List Oper} {o : Oper} {a : Act} {Q : Exit → Act → World → Prop}
    (hw : Region.wanted o (yielded ops a.tmps) = true) (m x : Operand) (hop : o.op = Op.lookup T m x false) (L : MapLaw P T K E el ld ok z0) (h : Mp P K E ld w b n f s) (hm : a.eval m = .map (some b)) (k : Int) (hx : a.eval x = .int .i64 k) (hk : okI k)
    (hK : wpList P ops Q rest (a.put o.dst (el ((f k).getD z0))) w) : wpList P ops Q (o :: rest) a w := by
  refine wpList_step fun K' hK' => ?_
  rw [if_pos hw]
  unfold Oper.wp
  simp [execOp, hop, hm, hx, h.read L hk, Result.andThen]
  exact hK' _ _ hK
/-- The map of those that are suspected. -/
def suspM (g : List Rc) (s : Sp) (l : List Ga) (t : Sp) (m j : Nat) (x : Int) : Option Bool := if suspT g s l t m j x = true then some true else none
theorem suspM_getD {g : List Rc} {s : Sp} {l : List Ga} {t : Sp} {m j : Nat} (x : Int) : (suspM g s l t m j x).getD false = suspT g s l t m j x := by
  unfold suspM; cases suspT g s l t m j x <;> rfl
theorem suspM_succ {g : List Rc} {s : Sp} {l : List Ga} {t : Sp} {m j : Nat} {y : Int} (h : ((falN g s l t m).map Int.ofNat)[j]? = some y) (x : Int) : suspM g s l t m (j + 1) x = upd (suspM g s l t m j) y (some true) x := by
  unfold suspM upd
  rw [susp_succ h]
  by_cases e : x = y
  · rw [if_pos e, if_pos rfl, if_pos e]
  · rw [if_neg e, if_neg e]
set_option maxHeartbeats 40000000 in
set_option maxRecDepth 100000 in
theorem fallg_walk (A S B : Option Addr) (g : List Rc) (s t : Sp) (sh bys : List Nat) (n c m d nb cb x : Nat) (w : World) (hn : n = g.length) (hm : n ≤ 9223372036854775807) (hx : Rd w w.heap.size Rc.cells A g) (hx255 : x ≤ 255)
    (hms : m = sh.length) (hm2 : m ≤ 9223372036854775807) (hs : Rd w w.heap.size u8cell S sh) (h8 : ∀ x ∈ sh, x ≤ 255) (hnb : nb = bys.length) (hnb2 : nb ≤ 9223372036854775807) (hby : Rd w w.heap.size u32cell B bys) (h32 : ∀ x ∈ bys, x ≤ 4294967295) :
    Calls Try.prog 9 #[.slice A n c, .agg #[.int .i64 s.lo, .int .i64 s.hi], .agg #[.int .i64 t.lo, .int .i64 t.hi], .int .u8 (x : Int), .slice S m d, .slice B nb cb] w fun e w' => e = .returned (.bool true) ∧ Below w.heap.size w w' := by
  obtain ⟨b7, w1, e7, ew1, hx7, hb1, hz1⟩ := mk_bx w #[.int .i64 s.lo, .int .i64 s.hi] 24
  obtain ⟨b8, w2, e8, ew2, hx8, hb2, hz2⟩ := mk_bx w1 #[.int .i64 t.lo, .int .i64 t.hi] 24
  have e78 : b7 + 1 = b8 := by have := e8.out; omega
  have hB2 := hb1.trans (hb2.mono hb1.size)
  have Hn := hide hn; have Hm := hide hms; have Hnb := hide hnb; have H8 := hide h8; have H32 := hide h32
  have rg := hx.bel hB2; have rsh := hs.bel hB2; have rby := hby.bel hB2
  replace hx7 := hx7.bel hb2
  clear hn hms hnb h8 h32 hx hs hby hz1 hz2 hb1 hb2
  go_enter Try.func9, Try.ntmps9
  go_wp2_with fail
  rw [ew1.out, e7.out, e78, ew2.out]
  refine (galive_any _).mono ?_
  rintro e w3 ⟨rfl, hb3⟩
  have hB3 := hB2.trans (hb3.mono hB2.size)
  replace hx7 := hx7.bel hb3; replace hx8 := hx8.bel hb3
  replace rg := rg.bel hb3; replace rsh := rsh.bel hb3; replace rby := rby.bel hb3
  obtain ⟨q0, q1, _, _⟩ := hx7.w2
  go_wp2_with fail
  refine (gready_any A g s n c w3 Hn.out hm rg).mono ?_
  rintro e w4 ⟨rfl, hb4⟩
  have hB4 := hB3.trans (hb4.mono hB3.size)
  replace hx7 := hx7.bel hb4; replace hx8 := hx8.bel hb4
  replace rg := rg.bel hb4; replace rsh := rsh.bel hb4; replace rby := rby.bel hb4
  clear q0 q1 hb3 hb4 hB3 hB2
  cases hok : gOk g && Sp.ok 0 1000000 s
  · clear hok
    go_wp2_with fail
    go_ret
    exact ⟨rfl, hB4⟩
  obtain ⟨hg, hso⟩ := (Bool.and_eq_true _ _).mp hok
  have hgl := gOk_len hg
  have hn12 : n ≤ 12 := by rw [Hn.out]; exact hgl.2
  have hn1 : 1 ≤ n := by rw [Hn.out]; exact hgl.1
  have Hg := hide hg; have Hso := hide hso; have Hs1 := hide (okS_fine hso)
  clear hok hg hso hgl
  obtain ⟨p0, p1, _, _⟩ := hx8.w2
  go_wp2_with fail
  refine (spanned_any _ _ _ _ _).mono ?_
  rintro e w5 ⟨rfl, hb5⟩
  have hB5 := hB4.trans (hb5.mono hB4.size)
  replace hx7 := hx7.bel hb5; replace hx8 := hx8.bel hb5
  replace rg := rg.bel hb5; replace rsh := rsh.bel hb5; replace rby := rby.bel hb5
  clear p0 p1 hb5 hB4
  cases hto : Sp.ok 0 1000000 ⟨t.lo, t.hi⟩
  · clear hto
    go_wp2_with fail
    go_ret
    exact ⟨rfl, hB5⟩
  have Hto : Hid (Sp.ok 0 1000000 t = true) := hide hto
  have Ht1 := hide (okS_fine Hto.out)
  have X7 := hide hx7; have X8 := hide hx8; have Hx := hide rg; have Hsh := hide rsh; have Hby := hide rby
  obtain ⟨k, hk0⟩ : ∃ k, k = x % n := ⟨_, rfl⟩
  have hk : k < n := by rw [hk0]; exact Nat.mod_lt _ hn1
  have hke : (x : Int) % (n : Int) = (k : Int) := by rw [hk0]; exact (Int.natCast_emod x n).symm
  have hnz : ¬ (n : Int) = 0 := by omega
  obtain ⟨w4, rfl⟩ : ∃ w4, w4 = w5 := ⟨w5, rfl⟩
  clear hto hx7 hx8 rg rsh rby hk0
  go_wp2_with fail
  rw [hke]
  clear hke
  refine wp_region_held_drew (S := (fun W => Below w4.heap.size w4 W)) (by kernel_rfl) (by (try dsimp only); exact (Below.refl _ _).drew) (fun hHeld => ?_)
  generalize World.drew w4 = Wd7 at hHeld ⊢
  have hbc := Below.refl Wd7.heap.size Wd7
  refine wpAnyH_take (i := 0) (oi := ⟨_, _, _, _, _, _⟩) (v := ?_) rfl (by kernel_rfl) (by kernel_rfl) (by kernel_rfl) (fun _ _ _ h => h) (Or.inl ⟨by rfl, ?_⟩) hHeld ?_
  rotate_left
  · (intro w hSw; (try dsimp only at hSw); go_simp; try (with_reducible rfl))
  try simp only [Act.put, List.setIfInBounds_toArray, List.set_cons_zero, List.set_cons_succ]
  refine wpAnyH_take (i := 1) (oi := ⟨_, _, _, _, _, _⟩) (v := ?_) rfl (by kernel_rfl) (by kernel_rfl) (by kernel_rfl) (fun _ _ _ h => h) (Or.inl ⟨by rfl, ?_⟩) hHeld ?_
  rotate_left
  · (intro w hSw; (try dsimp only at hSw); go_simp; try (with_reducible rfl))
  try simp only [Act.put, List.setIfInBounds_toArray, List.set_cons_zero, List.set_cons_succ]
  refine wpAnyH_take (i := 2) (oi := ⟨_, _, _, _, _, _⟩) (v := ?_) rfl (by kernel_rfl) (by kernel_rfl) (by kernel_rfl) (fun _ _ _ h => h) (Or.inl ⟨by rfl, ?_⟩) hHeld ?_
  rotate_left
  · (intro w hSw; (try dsimp only at hSw); obtain ⟨p0, p1, _, _⟩ := (X8.out.bel hSw).w2; obtain ⟨q0, q1, _, _⟩ := (X7.out.bel hSw).w2; go_simp; try (with_reducible rfl))
  try simp only [Act.put, List.setIfInBounds_toArray, List.set_cons_zero, List.set_cons_succ]
  refine wpAnyH_take (i := 4) (oi := ⟨_, _, _, _, _, _⟩) (v := ?_) rfl (by kernel_rfl) (by kernel_rfl) (by kernel_rfl) (fun _ _ _ h => h) (Or.inl ⟨by rfl, ?_⟩) hHeld ?_
  rotate_left
  · (intro w hSw; (try dsimp only at hSw); obtain ⟨p0, p1, _, _⟩ := (X8.out.bel hSw).w2; obtain ⟨q0, q1, _, _⟩ := (X7.out.bel hSw).w2; go_simp; try (with_reducible rfl))
  try simp only [Act.put, List.setIfInBounds_toArray, List.set_cons_zero, List.set_cons_succ]
  refine wpAnyH_take (i := 5) (oi := ⟨_, _, _, _, _, _⟩) (v := ?_) rfl (by kernel_rfl) (by kernel_rfl) (by kernel_rfl) (fun _ _ _ h => h) (Or.inl ⟨by rfl, ?_⟩) hHeld ?_
  rotate_left
  · (intro w hSw; (try dsimp only at hSw); go_simp; try (with_reducible rfl))
  try simp only [Act.put, List.setIfInBounds_toArray, List.set_cons_zero, List.set_cons_succ]
  refine wpAnyH_ready (rs := [3]) (by kernel_rfl) (by simp) ?_
  refine AllReadyH.cons (o := ⟨_, _, _, _, _, _⟩) rfl (fun K hK => ?_) AllReadyH.nil
  go_simp
  refine (rfallen_any A g t k n c _ Hn.out hk (by omega) ((Hx.out.below hHeld).more hHeld.size)).mono ?_
  rintro e V54 ⟨q54, c54, rfl, o54, hb⟩
  go_wp2_with fail
  have hHeldN := hHeld.trans (hb.mono hHeld.size)
  have hbc := hbc.trans (hb.mono hbc.size)
  refine hK.out _ _ ?_ (fun hHeld2 => ?_)
  · exact hHeldN
  clear hK K hHeld hHeldN hb; have hHeld := hHeld2; clear hHeld2
  try simp only [Act.put, List.setIfInBounds_toArray, List.set_cons_zero, List.set_cons_succ]
  refine wpAnyH_ready (rs := [6]) (by kernel_rfl) (by simp) ?_
  refine AllReadyH.cons (o := ⟨_, _, _, _, _, _⟩) rfl (fun K hK => ?_) AllReadyH.nil
  obtain ⟨_, _, ec54, r54⟩ := o54.rdn n (by rw [fallS_len]; exact Hn.out.symm)
  injection ec54 with e1 e2 e3
  subst e1; subst e3
  go_simp
  refine (runs_any (some ⟨q54, 0, none⟩) B (fallS g k t) s bys n c54 nb cb _ (by rw [fallS_len]; exact Hn.out) (by omega) r54 Hnb.out hnb2 ((Hby.out.below hHeld).more hHeld.size) H32.out (fallS_fine (gOk_fine Hg.out) Ht1.out) Hs1.out).mono ?_
  rintro e V57 ⟨A1, c1, A2, c2, A3, c3, fs, ls, gs, rfl, hRP, r1, r2, r3, hb⟩
  go_wp2_with fail
  have hHeldN := hHeld.trans (hb.mono hHeld.size)
  have o54 := o54.bel hb
  have hbc := hbc.trans (hb.mono hbc.size)
  refine hK.out _ _ ?_ (fun hHeld2 => ?_)
  · exact hHeldN
  clear hK K hHeld hHeldN hb; have hHeld := hHeld2; clear hHeld2
  try simp only [Act.put, List.setIfInBounds_toArray, List.set_cons_zero, List.set_cons_succ]
  refine wpAnyH_take (i := 7) (oi := ⟨_, _, _, _, _, _⟩) (v := ?_) rfl (by kernel_rfl) (by kernel_rfl) (by kernel_rfl) (fun _ _ _ h => h) (Or.inl ⟨by rfl, ?_⟩) hHeld ?_
  rotate_left
  · (intro w hSw; (try dsimp only at hSw); go_simp; try (with_reducible rfl))
  try simp only [Act.put, List.setIfInBounds_toArray, List.set_cons_zero, List.set_cons_succ]
  refine wpAnyH_take (i := 8) (oi := ⟨_, _, _, _, _, _⟩) (v := ?_) rfl (by kernel_rfl) (by kernel_rfl) (by kernel_rfl) (fun _ _ _ h => h) (Or.inl ⟨by rfl, ?_⟩) hHeld ?_
  rotate_left
  · (intro w hSw; (try dsimp only at hSw); go_simp; try (with_reducible rfl))
  try simp only [Act.put, List.setIfInBounds_toArray, List.set_cons_zero, List.set_cons_succ]
  refine wpAnyH_take (i := 9) (oi := ⟨_, _, _, _, _, _⟩) (v := ?_) rfl (by kernel_rfl) (by kernel_rfl) (by kernel_rfl) (fun _ _ _ h => h) (Or.inl ⟨by rfl, ?_⟩) hHeld ?_
  rotate_left
  · (intro w hSw; (try dsimp only at hSw); go_simp; try (with_reducible rfl))
  try simp only [Act.put, List.setIfInBounds_toArray, List.set_cons_zero, List.set_cons_succ]
  refine wpAnyH_take (i := 10) (oi := ⟨_, _, _, _, _, _⟩) (v := ?_) rfl (by kernel_rfl) (by kernel_rfl) (by kernel_rfl) (fun _ _ _ h => h) (Or.inl ⟨by rfl, ?_⟩) hHeld ?_
  rotate_left
  · (intro w hSw; (try dsimp only at hSw); go_simp; try (with_reducible rfl))
  try simp only [Act.put, List.setIfInBounds_toArray, List.set_cons_zero, List.set_cons_succ]
  refine wpAnyH_take (i := 11) (oi := ⟨_, _, _, _, _, _⟩) (v := ?_) rfl (by kernel_rfl) (by kernel_rfl) (by kernel_rfl) (fun _ _ _ h => h) (Or.inl ⟨by rfl, ?_⟩) hHeld ?_
  rotate_left
  · (intro w hSw; (try dsimp only at hSw); go_simp; try (with_reducible rfl))
  try simp only [Act.put, List.setIfInBounds_toArray, List.set_cons_zero, List.set_cons_succ]
  refine wpAnyH_take (i := 12) (oi := ⟨_, _, _, _, _, _⟩) (v := ?_) rfl (by kernel_rfl) (by kernel_rfl) (by kernel_rfl) (fun _ _ _ h => h) (Or.inl ⟨by rfl, ?_⟩) hHeld ?_
  rotate_left
  · (intro w hSw; (try dsimp only at hSw); go_simp; try (with_reducible rfl))
  try simp only [Act.put, List.setIfInBounds_toArray, List.set_cons_zero, List.set_cons_succ]
  refine wpAnyH_take (i := 13) (oi := ⟨_, _, _, _, _, _⟩) (v := ?_) rfl (by kernel_rfl) (by kernel_rfl) (by kernel_rfl) (fun _ _ _ h => h) (Or.inl ⟨by rfl, ?_⟩) hHeld ?_
  rotate_left
  · (intro w hSw; (try dsimp only at hSw); go_simp; try (with_reducible rfl))
  try simp only [Act.put, List.setIfInBounds_toArray, List.set_cons_zero, List.set_cons_succ]
  refine wpAnyH_done (by kernel_rfl) ?_ _
  have hw4 := hHeld
  have HRP := hide hRP
  clear hRP hbc hHeld r54 o54
  have Hgv : Hid (∀ l : List Ga, SeenP n fs l → ∀ x ∈ l, (0 ≤ x.shaft ∧ x.shaft ≤ g.length) ∧ x.flow.fine 13000000) := hide fun l hl => seen_ok Hn.out hl
  obtain ⟨w6, rfl⟩ : ∃ w6, w6 = V57 := ⟨V57, rfl⟩
  go_wp2_with fail
  refine (seen_any A1 S B fs sh bys n c1 m d nb cb _ HRP.out.lf.symm (by omega) (r1.more (Nat.le_refl _)) (by intro j hj; exact HRP.out.bd j hj) Hm.out hm2 (Hsh.out.bel hw4) H8.out Hnb.out hnb2 (Hby.out.bel hw4) H32.out).mono ?_
  rintro e w7 ⟨Al, cl, l, rfl, hl30, hlsh, hSP, rl, hb7⟩
  have h47 := hw4.trans (hb7.mono hw4.size)
  obtain ⟨F, hfit, hin⟩ := fall_fits Hg.out Hto.out HRP.out Hn.out hSP
  have hv := Hgv.out l hSP
  obtain ⟨hE, hL, hW, hpos⟩ := fall_told Hg.out Hso.out Hto.out (by rw [← Hn.out]; exact hk) hl30 hv (by rw [hfit]; rfl)
  rw [← Hn.out] at hL hpos
  have hfe := fl_err Hg.out Hso.out hl30 hv
  have Hfall := hide (fun i => fall_err Hg.out Hso.out Hto.out hl30 hv i)
  have Hkf : Hid ((fitF g s l t k).isSome = true) := hide (by rw [hfit]; rfl)
  have HE := hide hE; have HL := hide hL; have HW := hide hW; have Hfe := hide hfe
  have Hrl7 := hide rl
  obtain ⟨q0, q1, _, _⟩ := (X7.out.bel h47).w2
  obtain ⟨p0, p1, _, _⟩ := (X8.out.bel h47).w2
  clear hSP hin hfit hv hE hL hW hfe r1 r2 r3 hb7 hw4 Hgv
  go_wp2_with fail
  refine (falls_any A Al g s l t n c l.length cl w7 Hn.out hm (Hx.out.bel h47) rfl (by omega) Hrl7.out).mono ?_
  rintro e w8 ⟨v8, rfl, hol, hb8⟩
  rw [HE.out, HW.out]
  rw [HL.out] at hol
  obtain ⟨nl, hnl⟩ : ∃ nl, nl = ((falN g s l t n).map Int.ofNat).length := ⟨_, rfl⟩
  have hnl1 : 1 ≤ nl := by rw [hnl, List.length_map]; exact hpos
  have hnl12 : nl ≤ 12 := by have := falN_len (g := g) (s := s) (l := l) (t := t) n; rw [hnl, List.length_map]; omega
  obtain ⟨Ai, ci, rfl, hri⟩ := hol.rdn nl hnl.symm
  have h48 := h47.trans (hb8.mono h47.size)
  have Hnl := hide hnl; have Hri8 := hide hri
  clear q0 q1 p0 p1 hol hnl hri hpos
  obtain ⟨q0, q1, _, _⟩ := (X7.out.bel h48).w2
  go_wp2_with fail
  refine (flows_any A Al g s l n c l.length cl w8 Hn.out hm (Hx.out.bel h48) rfl (by omega) (Hrl7.out.bel hb8)).mono ?_
  rintro e w9 ⟨v22, v23, rfl, _, _, hb9⟩
  have h49 := h48.trans (hb9.mono h48.size)
  have h79 := hb8.trans (hb9.mono hb8.size)
  rw [Hfe.out]
  obtain ⟨er, her⟩ : ∃ er : Int, er = if (fitS g l s).isSome then 0 else 24 := ⟨_, rfl⟩
  rw [← her]
  have hwe : (fitS g l s).isSome = (er == 0) := by rw [her]; cases (fitS g l s).isSome <;> rfl
  rw [hwe]
  have hmm := @run_makeMap Try.prog
  have Hmp0 := hide (Mp.made w9 Try.prog 3 4 ldB)
  have hbm0 := below_new w9 (.map #[] 0)
  have Hri := hide (Hri8.out.bel hb9)
  clear her hwe q0 q1 Hri8 hb8 hb9 h47 h48
  go_wp2_with fail
  clear hmm
  obtain ⟨bm, hbm⟩ : ∃ bm, bm = w9.heap.size := ⟨_, rfl⟩
  rw [← hbm] at Hmp0 ⊢
  have Hbm := hide hbm
  clear hbm
  obtain ⟨wo, HW1⟩ : ∃ wo, Hid (w9.alloc (.map #[] 0) = wo) := ⟨_, hide rfl⟩
  rw [HW1.out] at Hmp0 hbm0 ⊢
  clear HW1
  have HB49 := hide h49; have HB79 := hide h79
  clear h49 h79
  go_loopw [98] (fun i wq => ∃ (k1 ns : Nat), k1 ≤ nl ∧ i = .int .i64 k1 ∧ Below w9.heap.size w9 wq ∧ Hid (Mp Try.prog 3 4 ldB wq bm k1 (suspM g s l t n k1) ns)) (fun i _ => nl - (intOf i).toNat)
  case atStart => exact ⟨0, 0, by omega, rfl, hbm0, hide (Hmp0.out.congr fun q => by simp [suspM, susp_zero])⟩
  case round =>
    clear hbm0 Hmp0
    obtain ⟨k1, ns, hk1, rfl, hb, hmp⟩ := hrel
    by_cases hlt : k1 < nl
    · obtain ⟨b1, o1, y, rfl, hb1, hyk, c0⟩ := (Hri.out.bel hb).int (i := k1) (by rw [← Hnl.out]; exact hlt)
      obtain ⟨y', hy', hy1, hy2⟩ := fal_get hyk
      subst hy'
      have Hok1 := hide (show okI (y' : Int) by unfold okI; omega)
      have Hyk := hide hyk
      clear hyk hy2
      by_cases hk0 : k1 = 0
      · have hd : ¬ 0 < k1 := by omega
        clear hk0
        go_wp2_with (at_mapUpdate; refine wpList_mapWrite rfl _ _ _ rfl mapB hmp.out (by omega) rfl (y' : Int) rfl Hok1.out true rfl trivial ?_; intro w5 hmp5 hg5)
        have hbb := Hbm.out
        exact ⟨⟨k1 + 1, _, by omega, by go_num, hb.grown hg5 hb.size (fun g hg => by injection hg with hg; omega), hide (hmp5.congr fun q => suspM_succ Hyk.out q)⟩, by simp [intOf]; omega⟩
      · have hd : decide ((0 : Int) < (k1 : Int)) = true := decide_eq_true (by omega)
        obtain ⟨b2, o2, z, e2, _, hzk, c1⟩ := (Hri.out.bel hb).int (i := k1 - 1) (by rw [← Hnl.out]; omega)
        injection e2 with e2
        injection e2 with e2 e3
        subst e2; subst e3
        have hzy := fal_up hzk (by rw [show k1 - 1 + 1 = k1 by omega]; exact Hyk.out)
        have i1 : 0 ≤ (k1 : Int) - 1 := by omega
        have i2 : ((k1 : Int) - 1).toNat = k1 - 1 := by omega
        have i3 : (k1 : Int) - 1 < (nl : Int) := by omega
        clear hzk hk0
        go_wp2_with (at_mapUpdate; refine wpList_mapWrite rfl _ _ _ rfl mapB hmp.out (by omega) rfl (y' : Int) rfl Hok1.out true rfl trivial ?_; intro w5 hmp5 hg5)
        have hbb := Hbm.out
        exact ⟨⟨k1 + 1, _, by omega, by go_num, hb.grown hg5 hb.size (fun g hg => by injection hg with hg; omega), hide (hmp5.congr fun q => suspM_succ Hyk.out q)⟩, by simp [intOf]; omega⟩
    · obtain rfl : nl = k1 := by omega
      obtain ⟨wl, rfl⟩ : ∃ wl, wl = wr := ⟨wr, rfl⟩
      have Hb := hide hb
      clear hb
      go_wp2_with fail
      go_loopw [129] (fun i wq => ∃ k2 : Nat, k2 ≤ n ∧ i = .int .i64 k2 ∧ Below wl.heap.size wl wq) (fun i _ => n - (intOf i).toNat)
      case atStart => exact ⟨0, by omega, rfl, Below.refl _ _⟩
      case round =>
        obtain ⟨k2, hk2, rfl, hb⟩ := hrel
        have hb9r := Hb.out.trans (hb.mono Hb.out.size)
        have hlm : bm < wl.heap.size := hmp.out.lt
        have hmr := hmp.out.below hb hlm
        have HBo := hide (HB49.out.trans (hb9r.mono HB49.out.size)); have HBl := hide (HB79.out.trans (hb9r.mono HB79.out.size))
        by_cases hlt2 : k2 < n
        · have hat := suspM_getD (g := g) (s := s) (l := l) (t := t) (m := n) (j := nl) (k2 : Int)
          rw [susp_all (by have := Hnl.out; rw [List.length_map] at this; omega) hlt2] at hat
          have Hok1 := hide (show okI (k2 : Int) by unfold okI; omega)
          have Hat := hide hat; have Hmr := hide hmr; have Hbl := hide hb
          clear hat hmr hb hb9r
          go_wp2_with fail
          refine wp_region_held_drew (S := (fun W => Below wr.heap.size wr W)) (by kernel_rfl) (by (try dsimp only); exact (Below.refl _ _).drew) (fun hHeld => ?_)
          generalize World.drew wr = Wd24 at hHeld ⊢
          have hbc := Below.refl Wd24.heap.size Wd24
          refine wpAnyH_take (i := 0) (oi := ⟨_, _, _, _, _, _⟩) (v := ?_) rfl (by kernel_rfl) (by kernel_rfl) (by kernel_rfl) (fun _ _ _ h => h) (Or.inl ⟨by rfl, ?_⟩) hHeld ?_
          rotate_left
          · (intro w hSw; (try dsimp only at hSw); go_simp; try (with_reducible rfl))
          try simp only [Act.put, List.setIfInBounds_toArray, List.set_cons_zero, List.set_cons_succ]
          refine wpAnyH_take (i := 1) (oi := ⟨_, _, _, _, _, _⟩) (v := ?_) rfl (by kernel_rfl) (by kernel_rfl) (by kernel_rfl) (fun _ _ _ h => h) (Or.inl ⟨by rfl, ?_⟩) hHeld ?_
          rotate_left
          · (intro w hSw; (try dsimp only at hSw); go_simp; try (with_reducible rfl))
          try simp only [Act.put, List.setIfInBounds_toArray, List.set_cons_zero, List.set_cons_succ]
          refine wpAnyH_take (i := 2) (oi := ⟨_, _, _, _, _, _⟩) (v := ?_) rfl (by kernel_rfl) (by kernel_rfl) (by kernel_rfl) (fun _ _ _ h => h) (Or.inl ⟨by rfl, ?_⟩) hHeld ?_
          rotate_left
          · (intro w hSw; (try dsimp only at hSw); obtain ⟨p0, p1, _, _⟩ := ((X8.out.bel HBo.out).bel hSw).w2; obtain ⟨q0, q1, _, _⟩ := ((X7.out.bel HBo.out).bel hSw).w2; go_simp; try (with_reducible rfl))
          try simp only [Act.put, List.setIfInBounds_toArray, List.set_cons_zero, List.set_cons_succ]
          refine wpAnyH_take (i := 4) (oi := ⟨_, _, _, _, _, _⟩) (v := ?_) rfl (by kernel_rfl) (by kernel_rfl) (by kernel_rfl) (fun _ _ _ h => h) (Or.inl ⟨by rfl, ?_⟩) hHeld ?_
          rotate_left
          · (intro w hSw; (try dsimp only at hSw); obtain ⟨p0, p1, _, _⟩ := ((X8.out.bel HBo.out).bel hSw).w2; obtain ⟨q0, q1, _, _⟩ := ((X7.out.bel HBo.out).bel hSw).w2; go_simp; try (with_reducible rfl))
          try simp only [Act.put, List.setIfInBounds_toArray, List.set_cons_zero, List.set_cons_succ]
          refine wpAnyH_take (i := 5) (oi := ⟨_, _, _, _, _, _⟩) (v := ?_) rfl (by kernel_rfl) (by kernel_rfl) (by kernel_rfl) (fun _ _ _ h => h) (Or.inl ⟨by rfl, ?_⟩) hHeld ?_
          rotate_left
          · (intro w hSw; (try dsimp only at hSw); go_simp; try (with_reducible rfl))
          try simp only [Act.put, List.setIfInBounds_toArray, List.set_cons_zero, List.set_cons_succ]
          refine wpAnyH_ready (rs := [3]) (by kernel_rfl) (by simp) ?_
          refine AllReadyH.cons (o := ⟨_, _, _, _, _, _⟩) rfl (fun K hK => ?_) AllReadyH.nil
          go_simp
          refine (rfallen_any A g t k2 n c _ Hn.out hlt2 (by omega) ((Hx.out.below (HBo.out.trans (hHeld.mono HBo.out.size))).more (HBo.out.trans (hHeld.mono HBo.out.size)).size)).mono ?_
          rintro e V136 ⟨q54, c54, rfl, o54, hb⟩
          go_wp2_with fail
          have hHeldN := hHeld.trans (hb.mono hHeld.size)
          have hbc := hbc.trans (hb.mono hbc.size)
          refine hK.out _ _ ?_ (fun hHeld2 => ?_)
          · exact hHeldN
          clear hK K hHeld hHeldN hb; have hHeld := hHeld2; clear hHeld2
          try simp only [Act.put, List.setIfInBounds_toArray, List.set_cons_zero, List.set_cons_succ]
          refine wpAnyH_ready (rs := [6]) (by kernel_rfl) (by simp) ?_
          refine AllReadyH.cons (o := ⟨_, _, _, _, _, _⟩) rfl (fun K hK => ?_) AllReadyH.nil
          obtain ⟨_, _, ec54, r54⟩ := o54.rdn n (by rw [fallS_len]; exact Hn.out.symm)
          injection ec54 with e1 e2 e3
          subst e1; subst e3
          go_simp
          refine (flows_any (some ⟨q54, 0, none⟩) Al (fallS g k2 t) s l n c54 l.length cl _ (by rw [fallS_len]; exact Hn.out) hm r54 rfl (by omega) ((Hrl7.out.below (HBl.out.trans (hHeld.mono HBl.out.size))).more (HBl.out.trans (hHeld.mono HBl.out.size)).size)).mono ?_
          rintro e V139 ⟨v29, v30, rfl, o29, o30, hb⟩
          go_wp2_with fail
          have hHeldN := hHeld.trans (hb.mono hHeld.size)
          have o54 := o54.bel hb
          have hbc := hbc.trans (hb.mono hbc.size)
          refine hK.out _ _ ?_ (fun hHeld2 => ?_)
          · exact hHeldN
          clear hK K hHeld hHeldN hb; have hHeld := hHeld2; clear hHeld2
          try simp only [Act.put, List.setIfInBounds_toArray, List.set_cons_zero, List.set_cons_succ]
          refine wpAnyH_take (i := 7) (oi := ⟨_, _, _, _, _, _⟩) (v := ?_) rfl (by kernel_rfl) (by kernel_rfl) (by kernel_rfl) (fun _ _ _ h => h) (Or.inl ⟨by rfl, ?_⟩) hHeld ?_
          rotate_left
          · (intro w hSw; (try dsimp only at hSw); go_simp; try (with_reducible rfl))
          try simp only [Act.put, List.setIfInBounds_toArray, List.set_cons_zero, List.set_cons_succ]
          refine wpAnyH_take (i := 8) (oi := ⟨_, _, _, _, _, _⟩) (v := ?_) rfl (by kernel_rfl) (by kernel_rfl) (by kernel_rfl) (fun _ _ _ h => h) (Or.inl ⟨by rfl, ?_⟩) hHeld ?_
          rotate_left
          · (intro w hSw; (try dsimp only at hSw); go_simp; try (with_reducible rfl))
          try simp only [Act.put, List.setIfInBounds_toArray, List.set_cons_zero, List.set_cons_succ]
          refine wpAnyH_take (i := 9) (oi := ⟨_, _, _, _, _, _⟩) (v := ?_) rfl (by kernel_rfl) (by kernel_rfl) (by kernel_rfl) (fun _ _ _ h => h) (Or.inl ⟨by rfl, ?_⟩) hHeld ?_
          rotate_left
          · (intro w hSw; (try dsimp only at hSw); go_simp; try (with_reducible rfl))
          try simp only [Act.put, List.setIfInBounds_toArray, List.set_cons_zero, List.set_cons_succ]
          refine wpAnyH_take (i := 10) (oi := ⟨_, _, _, _, _, _⟩) (v := ?_) rfl (by kernel_rfl) (by kernel_rfl) (by kernel_rfl) (fun _ _ _ h => h) (Or.inl ⟨by rfl, ?_⟩) hHeld ?_
          rotate_left
          · (intro w hSw; (try dsimp only at hSw); go_simp; try (with_reducible rfl))
          try simp only [Act.put, List.setIfInBounds_toArray, List.set_cons_zero, List.set_cons_succ]
          refine wpAnyH_take (i := 11) (oi := ⟨_, _, _, _, _, _⟩) (v := ?_) rfl (by kernel_rfl) (by kernel_rfl) (by kernel_rfl) (fun _ _ _ h => h) (Or.inl ⟨by rfl, ?_⟩) hHeld ?_
          rotate_left
          · (intro w hSw; (try dsimp only at hSw); go_simp; try (with_reducible rfl))
          try simp only [Act.put, List.setIfInBounds_toArray, List.set_cons_zero, List.set_cons_succ]
          refine wpAnyH_take (i := 12) (oi := ⟨_, _, _, _, _, _⟩) (v := ?_) rfl (by kernel_rfl) (by kernel_rfl) (by kernel_rfl) (fun _ _ _ h => h) (Or.inl ⟨by rfl, ?_⟩) hHeld ?_
          rotate_left
          · (intro w hSw; (try dsimp only at hSw); go_simp; try (with_reducible rfl))
          try simp only [Act.put, List.setIfInBounds_toArray, List.set_cons_zero, List.set_cons_succ]
          refine wpAnyH_take (i := 13) (oi := ⟨_, _, _, _, _, _⟩) (v := ?_) rfl (by kernel_rfl) (by kernel_rfl) (by kernel_rfl) (fun _ _ _ h => h) (Or.inl ⟨by rfl, ?_⟩) hHeld ?_
          rotate_left
          · (intro w hSw; (try dsimp only at hSw); go_simp; try (with_reducible rfl))
          try simp only [Act.put, List.setIfInBounds_toArray, List.set_cons_zero, List.set_cons_succ]
          refine wpAnyH_done (by kernel_rfl) ?_ _
          have Hm5 := hide (Hmr.out.below hHeld Hmr.out.lt)
          have Hbl2 := hide (Hbl.out.trans (hHeld.mono Hbl.out.size))
          rw [Hfall.out k2]
          obtain ⟨wz, rfl⟩ : ∃ wz, wz = V139 := ⟨V139, rfl⟩
          clear hHeld hbc o29 o30 o54
          cases hf : (fitF g s l t k2).isSome
          all_goals
            have h2 := Hat.out
            rw [hf] at h2
            have Hat2 := hide h2
            clear h2 hf
            go_wp2_with (at_lookup; refine wpList_mapRead rfl _ _ rfl mapB Hm5.out rfl (k2 : Int) rfl Hok1.out ?_; rw [Hat2.out])
            exact ⟨⟨k2 + 1, by omega, by go_num, Hbl2.out⟩, by simp [intOf]; omega⟩
        · obtain rfl : n = k2 := by omega
          have hat := suspM_getD (g := g) (s := s) (l := l) (t := t) (m := n) (j := nl) (k : Int)
          rw [susp_all (by have := Hnl.out; rw [List.length_map] at this; omega) hk, Hkf.out] at hat
          have Hok1 := hide (show okI (k : Int) by unfold okI; omega)
          have Hat := hide hat; have Hmr := hide hmr
          clear hat hmr
          go_wp2_with (at_lookup; go_loud (refine wpList_mapReadG (by rfl) _ _ rfl mapB Hmr.out rfl (k : Int) rfl Hok1.out ?_; rw [Hat.out]))
          go_ret
          exact ⟨by first | rfl | simp, hB5.trans (HBo.out.mono hB5.size)⟩
set_option maxRecDepth 100000 in
theorem galleryFall_lifted (os : Os) (started : os.Started) (H : Type) (enc : TypeId × Value → H) :
    ReturnsInHanded {} Try.checked os 9 .any (Rows.galleryFallSpec.pre6 enc Try.prog Try.f9 Rows.galleryFallRow.domain false) (Rows.galleryFallSpec.post enc Try.prog Try.f9 false true false false) := by
  refine law_lifted os started H enc (s := Rows.galleryFallSpec) Try.func9 (by kernel_rfl) ?_ rfl Try.underlying4 rfl (of_decide_eq_true (by kernel_rfl))
    (ChangeSpec.witness6 (enc := enc) (C := Try.checked) false ⟨#[], #[.slice none 0 0, .agg #[.int .i64 0, .int .i64 0], .agg #[.int .i64 0, .int .i64 0], .int .u8 0, .slice none 0 0, .slice none 0 0], []⟩ 8 (by kernel_rfl) (by kernel_rfl) (by kernel_rfl) (by kernel_rfl)) ?_
  · intro ds hds
    match ds, hds with
    | [a, b, c, d, e, f], _ => rfl
  · intro W base args ds ps hval hA hlt
    rw [Try.params9] at hA hval
    obtain ⟨v0, v1, v2, v3, v4, v5, d0, d1, d2, d3, d4, d5, p0, p1, p2, p3, p4, p5, rfl, rfl, rfl, h0, h1, h2, h3, h4, h5⟩ := trodAll_six hA
    obtain ⟨A, n, c, g, rfl, hn, hm, hr, _⟩ := open_sl shape_rc Try.underlying22 cells_rc Rc.len (by omega) (hval 0 _ v0 rfl rfl) h0
    obtain ⟨s, rfl, _⟩ := open_val shape_sp Try.underlying24 (hval 1 _ v1 rfl rfl) h1
    obtain ⟨t, rfl, _⟩ := open_val shape_sp Try.underlying24 (hval 2 _ v2 rfl rfl) h2
    obtain ⟨x, rfl, hx255⟩ := open_u8 (hval 3 _ v3 rfl rfl) h3
    obtain ⟨S, m, d, sh, rfl, hms, hm2, hs, h8⟩ := open_sl shape_u8 Try.underlying66 cells_u8 u8cell_len (by omega) (hval 4 _ v4 rfl rfl) h4
    obtain ⟨B, nb, cb, bys, rfl, hnb, hnb2, hby, h32⟩ := open_sl shape_u32 Try.underlying67 cells_u32 u32cell_len (by omega) (hval 5 _ v5 rfl rfl) h5
    exact fallg_walk A S B g s t sh bys n c m d nb cb x W hn hm hr hx255 hms hm2 hs h8 hnb hnb2 hby h32

theorem galleryFall_holds : Rows.GalleryFallSaid :=
  OpenClaim.holds_of_wide 9 Try.f9 rfl rfl rfl rfl rfl rfl rfl ⟨rfl, rfl, rfl, rfl, rfl⟩ rfl rfl rfl rfl rfl (by kernel_rfl) Try.func9 (by kernel_rfl)
    (of_decide_eq_true (by kernel_rfl)) (by unfold Func.isWrapper; rw [if_neg (of_decide_eq_false (by kernel_rfl))]; exact ⟨rfl, rfl⟩)
    (fun os started H enc _ => galleryFall_lifted os started H enc)
#print axioms galleryFall_holds
end Go.Proofs.Ytkmocikcohhdoaa
