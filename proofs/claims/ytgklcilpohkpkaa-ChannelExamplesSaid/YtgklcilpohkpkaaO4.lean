/- Channel: the search for the best order, one step, by contract. -/
import Derived.Test.YtgklcilpohkpkaaO3
import Derived.WalkMore
set_option linter.unusedVariables false
set_option linter.unusedSimpArgs false
namespace Go.Proofs.Ytgklcilpohkpkaa
open Go.RowKit Go.Shelf
attribute [local go_sem ↓] Go.wp_at_zero Go.wp_at_succ
/-- One box may be turned, all else stands. -/
structure B1 (w : World) (b : Nat) (W : World) : Prop where
  k : Kept (fun x => ¬ x = b) w W
  a : ∃ v : Value, At W b [v]
  f : W.frozen? ⟨b, 0, none⟩ = false
theorem B1.refl {w : World} {b : Nat} {x : Value} (h : At w b [x]) (f : w.frozen? ⟨b, 0, none⟩ = false) : B1 w b w := ⟨Kept.refl _ _, ⟨x, h⟩, f⟩
theorem B1.keep {w W W' : World} {b : Nat} (h : B1 w b W) (hb : Below W.heap.size W W') : B1 w b W' := by
  obtain ⟨x, ha⟩ := h.a
  exact ⟨h.k.trans (Kept.all _ hb), ⟨x, ha.below hb⟩, (hb.frozen (p := ⟨b, 0, none⟩) ha.1).trans h.f⟩
theorem B1.drew {w W : World} {b : Nat} (h : B1 w b W) : B1 w b W.drew := h.keep (Below.refl _ _).drew
theorem B1.setA {w W : World} {b : Nat} (h : B1 w b W) (u : Value) : B1 w b (W.setCell ⟨b, 0, none⟩ u) := by
  obtain ⟨x, ha⟩ := h.a
  exact ⟨h.k.trans (Kept.setCell _ ⟨b, 0, none⟩ _), ⟨u, by simpa using ha.set (j := 0) u (by simp)⟩, by rw [World.frozen?_setCell]; exact h.f⟩
/-- Two boxes may be turned, all else stands. -/
structure B2 (w : World) (b c : Nat) (W : World) : Prop where
  k : Kept (fun x => ¬ x = b ∧ ¬ x = c) w W
  a : ∃ v : Value, At W b [v]
  a2 : ∃ v : Value, At W c [v]
  f : W.frozen? ⟨b, 0, none⟩ = false
  f2 : W.frozen? ⟨c, 0, none⟩ = false
  ne : b ≠ c
theorem B2.keep {w W W' : World} {b c : Nat} (h : B2 w b c W) (hb : Below W.heap.size W W') : B2 w b c W' := by
  obtain ⟨x, ha⟩ := h.a
  obtain ⟨y, hc⟩ := h.a2
  exact ⟨h.k.trans (Kept.all _ hb), ⟨x, ha.below hb⟩, ⟨y, hc.below hb⟩, (hb.frozen (p := ⟨b, 0, none⟩) ha.1).trans h.f, (hb.frozen (p := ⟨c, 0, none⟩) hc.1).trans h.f2, h.ne⟩
theorem B2.drew {w W : World} {b c : Nat} (h : B2 w b c W) : B2 w b c W.drew := h.keep (Below.refl _ _).drew
theorem B2.setA {w W : World} {b c : Nat} (h : B2 w b c W) (u : Value) : B2 w b c (W.setCell ⟨b, 0, none⟩ u) := by
  obtain ⟨x, ha⟩ := h.a
  obtain ⟨y, hc⟩ := h.a2
  exact ⟨h.k.trans ((Kept.setCell _ ⟨b, 0, none⟩ _).mono fun x _ hx => hx.1), ⟨u, by simpa using ha.set (j := 0) u (by simp)⟩, ⟨y, hc.other (r := b) 0 u (Ne.symm h.ne)⟩, by rw [World.frozen?_setCell]; exact h.f, by rw [World.frozen?_setCell]; exact h.f2, h.ne⟩
theorem B2.setC {w W : World} {b c : Nat} (h : B2 w b c W) (u : Value) : B2 w b c (W.setCell ⟨c, 0, none⟩ u) := by
  obtain ⟨x, ha⟩ := h.a
  obtain ⟨y, hc⟩ := h.a2
  exact ⟨h.k.trans ((Kept.setCell _ ⟨c, 0, none⟩ _).mono fun x _ hx => hx.2), ⟨x, ha.other (r := c) 0 u h.ne⟩, ⟨u, by simpa using hc.set (j := 0) u (by simp)⟩, by rw [World.frozen?_setCell]; exact h.f, by rw [World.frozen?_setCell]; exact h.f2, h.ne⟩
theorem OrdC.lt {w0 : World} {p : OrdP} (h : OrdC w0 p) : (w0.heap.size ≤ p.bL ∧ p.bL < p.bF ∧ p.bF < p.bM ∧ p.bM < p.bO ∧ p.bO < p.bT) ∧ (p.bT < p.bX ∧ p.bX < p.bn ∧ p.bn < p.bU ∧ p.bU < p.bN ∧ p.bN < p.base) := ⟨⟨h.l0, h.l1, h.l2, h.l3, h.l4⟩, h.l5, h.l6, h.l7, h.l8, h.l9⟩
set_option maxHeartbeats 4000000 in
set_option maxRecDepth 100000 in
theorem next_zero (w0 : World) (p : OrdP) (hc : OrdC w0 p) (now : List Nat) (st : List Nat × Int) (W : World) (h : OrdS w0 p now st W) (hl : now.length = p.nk) (hnd : now.Nodup) (hlt : ∀ k ∈ now, k < p.nk) :
    Calls Try.prog 78 p.caps W fun e w' => (∃ v, e = .returned v) ∧ OrdS w0 p now (stO p.val st now) w' := by
  obtain ⟨vN, vU, vO, hq⟩ := h
  have huo : usesOk p.nf p.days (rowSt p.fl p.ml now).1 = true := row_ok hc.tn now hnd (fun k hk => by rw [← hc.ek]; exact hlt k hk) (by rw [hl]; exact hc.k6)
  obtain ⟨AN, cN, rfl, rN⟩ := hq.oN.rd
  obtain ⟨AU, cU, rfl, rU⟩ := hq.oU.rd
  rw [ints_len, hl] at hq
  rw [rowSt_len, hl] at hq
  have Hl := hide hl
  have Hq := hide hq; have HrU := hide rU; have Huo := hide huo
  have hx := hq.net
  unfold OrdP.net at hx
  obtain ⟨q0, q1, q2, q3⟩ := hx.c4
  have q4 := hq.hN.c1
  have q5 := hq.fb.c1
  obtain ⟨q6, q7⟩ := hq.flw.c2
  have q8 := hq.hU.c1
  have hnet := hc.net.below hq.bl
  have hk6 := hc.k6
  obtain ⟨⟨l0, l1, l2, l3, l4⟩, l5, l6, l7, l8, l9⟩ := hc.lt
  have Hnet := hide hnet; have Hc := hide hc
  have hs := hq.sz
  clear hq rN rU huo hnet hx hc hl
  unfold OrdP.caps
  go_enter Try.func78, Try.ntmps78
  go_step3
  go_wp2_with fail
  refine (waters_any p.Ac p.Af AU p.nc p.cc p.nf p.cf p.nk cU p.dry p.days p.a p.b p.cs p.fs (rowSt p.fl p.ml now).1 W Hnet.out HrU.out (by rw [rowSt_len]; exact Hl.out.symm) Hc.out.ok Huo.out Hc.out.sp).mono ?_
  rintro e w1 ⟨gf, gl, rfl, hof, hol, hb1⟩
  obtain ⟨A1, c1, hv, r1⟩ := hof.rd
  injection hv with e1 e2 e3
  subst e1 e3
  have hws := waters_sums (dry := p.dry) Hc.out.ok (by rw [← Hnet.out.ef]; exact Huo.out) Hc.out.sp
  have Hof := hide hof; have R1 := hide r1; have Hws := hide hws; have E2 := hide e2
  clear hof hol r1 hws e2
  go_wp2_with fail
  refine (sum_big (some ⟨gf, 0, none⟩) p.nf p.nf (watersK p.cs p.fs p.dry (p.days * 1440) p.a p.b (rowSt p.fl p.ml now).1 (rowSt p.fl p.ml now).1.length).1 w1 R1.out E2.out Hnet.out.nf2 Hws.out.1 Hws.out.2).mono ?_
  rintro e w2 ⟨rfl, hb2⟩
  rw [show (sumS ⟨0, 0⟩ (watersK p.cs p.fs p.dry (p.days * 1440) p.a p.b (rowSt p.fl p.ml now).1 (rowSt p.fl p.ml now).1.length).1).lo = p.val now from rfl]
  generalize (sumS ⟨0, 0⟩ (watersK p.cs p.fs p.dry (p.days * 1440) p.a p.b (rowSt p.fl p.ml now).1 (rowSt p.fl p.ml now).1.length).1).hi = H2
  obtain ⟨w3, Hw3⟩ : ∃ w3, Hid (w2.alloc (.cells #[.int .i64 (p.val now), .int .i64 H2] 51) = w3) := ⟨_, hide rfl⟩
  have hb3 : Below w2.heap.size w2 w3 := by rw [← Hw3.out]; exact below_new _ _
  have h11 : At w3 w2.heap.size [.int .i64 (p.val now), .int .i64 H2] := by rw [← Hw3.out]; exact At.new _ _ _ _ rfl _ rfl
  have hb13 := hb1.trans ((hb2.trans (hb3.mono hb2.size)).mono hb1.size)
  have hq3 := Hq.out.below Hc.out hb13
  have h2s : W.heap.size ≤ w2.heap.size := Nat.le_trans hb1.size hb2.size
  have q9 := hq3.tot.c1
  rw [← Hw3.out] at q9
  obtain ⟨z0, z1⟩ := h11.c2
  rw [← Hw3.out] at z0 z1
  clear q0 q1 q2 q3 q4 q5 q6 q7 q8
  by_cases hv : st.2 < p.val now
  · have hst : stO p.val st now = (now, p.val now) := by unfold stO; rw [if_pos hv]
    have HST := hide hst
    clear hst
    go_wp2_with fail
    rw [Hw3.out]
    have HNow := hide (hq3.oN.below (Below.refl _ _).drew)
    have hq3d := hide (hq3.below Hc.out (Below.refl _ _).drew)
    have HB2 := hide (show B2 w3 p.bO p.bT w3 from ⟨Kept.refl _ _, ⟨_, hq3.hO⟩, ⟨_, hq3.tot⟩, hq3.fo, hq3.ft, by omega⟩)
    clear z0 z1 q9
    refine wp_region_held_drew (S := (fun W => B2 w3 p.bO p.bT W)) (by kernel_rfl) (by (try dsimp only); exact HB2.out.drew) (fun hHeld => ?_)
    refine wpAnyH_take (i := 0) (oi := ⟨_, _, _, _, _, _⟩) (v := ?_) rfl (by kernel_rfl) (by kernel_rfl) (by kernel_rfl) (fun _ _ _ h => h) (Or.inl ⟨by rfl, ?_⟩) hHeld ?_
    rotate_left
    · (intro w hSw; (try dsimp only at hSw); have z0 := (hq3.hN.kept hSw.k (by omega)).c1; go_simp; try (with_reducible rfl))
    try simp only [Act.put, List.setIfInBounds_toArray, List.set_cons_zero, List.set_cons_succ]
    refine wpAnyH_take (i := 2) (oi := ⟨_, _, _, _, _, _⟩) (v := ?_) rfl (by kernel_rfl) (by kernel_rfl) (by kernel_rfl) (fun _ _ _ h => h) (Or.inl ⟨by rfl, ?_⟩) hHeld ?_
    rotate_left
    · (intro w hSw; (try dsimp only at hSw); go_simp; try (with_reducible rfl))
    try simp only [Act.put, List.setIfInBounds_toArray, List.set_cons_zero, List.set_cons_succ]
    refine wpAnyH_take (i := 3) (oi := ⟨_, _, _, _, _, _⟩) (v := ?_) rfl (by kernel_rfl) (by kernel_rfl) (by kernel_rfl) (fun _ _ _ h => h) (Or.inl ⟨by rfl, ?_⟩) hHeld ?_
    rotate_left
    · (intro w hSw; (try dsimp only at hSw); obtain ⟨z0, z1⟩ := (h11.kept hSw.k (by omega)).c2; go_simp; try (with_reducible rfl))
    try simp only [Act.put, List.setIfInBounds_toArray, List.set_cons_zero, List.set_cons_succ]
    refine wpAnyH_ready (rs := [1]) (by kernel_rfl) (by simp) ?_
    refine AllReadyH.cons (o := ⟨_, _, _, _, _, _⟩) rfl (fun K hK => ?_) AllReadyH.nil
    go_simp
    refine (clone_int _ _ _ HNow.out (by rw [ints_len, Hl.out]; omega)).mono ?_
    rintro e w' ⟨u, rfl, hou, hb⟩
    obtain ⟨Au_, cu_, rfl, hru_⟩ := hou.rd
    have Hou := hide hou
    have Hbb := hide hb
    clear hou hru_
    go_wp2_with fail
    refine hK.out _ _ ?_ (fun hHeld2 => ?_)
    · (try dsimp only)
      (first | exact hHeld | exact hHeld.keep hb | exact hHeld.drew | exact hHeld.setA _ | exact hHeld.setC _)
    clear hK K hHeld; have hHeld := hHeld2; clear hHeld2
    try simp only [Act.put, List.setIfInBounds_toArray, List.set_cons_zero, List.set_cons_succ]
    refine wpAnyH_ready (rs := [4]) (by kernel_rfl) (by simp) ?_
    refine AllReadyH.cons (o := ⟨_, _, _, _, _, _⟩) rfl (fun K hK => ?_) AllReadyH.nil
    obtain ⟨x, hx⟩ := hHeld.a
    have z0 := hx.c1
    have y0 := hHeld.f
    go_simp
    refine hK.out _ _ ?_ (fun hHeld2 => ?_)
    · (try dsimp only)
      (first | exact hHeld | exact hHeld.keep hb | exact hHeld.drew | exact hHeld.setA _ | exact hHeld.setC _)
    clear hK K hHeld; have hHeld := hHeld2; clear hHeld2
    try simp only [Act.put, List.setIfInBounds_toArray, List.set_cons_zero, List.set_cons_succ]
    refine wpAnyH_ready (rs := [5]) (by kernel_rfl) (by simp) ?_
    refine AllReadyH.cons (o := ⟨_, _, _, _, _, _⟩) rfl (fun K hK => ?_) AllReadyH.nil
    obtain ⟨x, hx⟩ := hHeld.a2
    have z0 := hx.c1
    have y0 := hHeld.f2
    go_simp
    refine hK.out _ _ ?_ (fun hHeld2 => ?_)
    · (try dsimp only)
      (first | exact hHeld | exact hHeld.keep hb | exact hHeld.drew | exact hHeld.setA _ | exact hHeld.setC _)
    clear hK K hHeld; have hHeld := hHeld2; clear hHeld2
    try simp only [Act.put, List.setIfInBounds_toArray, List.set_cons_zero, List.set_cons_succ]
    refine wpAnyH_done (by kernel_rfl) ?_ _
    have hfin := hq3d.out.best (t' := p.val now) Hc.out Hbb.out Hou.out
    go_wp2
    try rw [Exit.noGoto_ret]
    refine bodyPost_ret (results_none rfl _ _ _) rfl ?_
    exact ⟨⟨_, rfl⟩, by rw [HST.out]; exact ⟨_, _, _, hfin⟩⟩
  · have hst : stO p.val st now = st := by unfold stO; rw [if_neg hv]
    have HST := hide hst
    clear hst
    go_wp2
    rw [Hw3.out]
    try rw [Exit.noGoto_ret]
    refine bodyPost_ret (results_none rfl _ _ _) rfl ?_
    exact ⟨⟨_, rfl⟩, by rw [HST.out]; exact ⟨_, _, _, hq3⟩⟩
end Go.Proofs.Ytgklcilpohkpkaa
