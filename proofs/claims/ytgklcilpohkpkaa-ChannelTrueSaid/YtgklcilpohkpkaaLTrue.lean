/- ChannelTrue: whatever flows within bounds, the water of each field lies in its printed span, and what seeps is named: the law returns true for every net, flow, uses, and numbers that say what is so. No conditions. -/
import Derived.Test.YtgklcilpohkpkaaN1
import Derived.Test.YtgklcilpohkpkaaA3
import Derived.Test.YtgklcilpohkpkaaA4
import Derived.Carry
set_option linter.unusedVariables false
set_option linter.unusedSimpArgs false
namespace Go.Proofs.Ytgklcilpohkpkaa
open Go.RowKit Go.Shelf Go.WideShapes Go.ChangeShapes Go.ChangeAt Go.Deep
attribute [local go_sem ↓] Go.wp_at_zero Go.wp_at_succ
theorem ready_parts {cs : List Ca} {fs : List Int} {dry days a b : Int} {us : List Us} (h : readyB cs fs dry days a b us = true) : cs.length ≤ 24 ∧ fs.length ≤ 18 ∧ us.length ≤ 80 ∧ netOk cs fs dry days = true ∧ usesOk fs.length days us = true ∧ Sp.ok 0 13000000 ⟨a, b⟩ = true := by
  simp only [readyB, great, Bool.and_eq_true, Bool.not_eq_true', Bool.or_eq_false_iff, decide_eq_false_iff_not] at h
  obtain ⟨⟨⟨h1, h2⟩, h3⟩, h4, h5, h6⟩ := h
  exact ⟨by omega, by omega, by omega, h4, h5, h6⟩
set_option maxHeartbeats 40000000 in
set_option maxRecDepth 100000 in
theorem true_walk (Ac Af Au Ab : Option Addr) (nc cc nf cf nu cu nb cb : Nat) (dry days a b : Int) (cs : List Ca) (fs : List Int) (us : List Us) (bys : List Nat) (w : World) (hnc : nc = cs.length) (hnf : nf = fs.length) (hnu : nu = us.length) (hnb : nb = bys.length) (hnb2 : nb ≤ 9223372036854775807)
    (hcs : Rd w w.heap.size Ca.cells Ac cs) (hfs : Rd w w.heap.size icell Af fs) (hus : Rd w w.heap.size Us.cells Au us) (hby : Rd w w.heap.size u32cell Ab bys) (h32 : ∀ x ∈ bys, x ≤ 4294967295) :
    Calls Try.prog 7 #[.agg #[.slice Ac nc cc, .slice Af nf cf, .int .i64 dry, .int .i64 days], .agg #[.int .i64 a, .int .i64 b], .slice Au nu cu, .slice Ab nb cb] w fun e w' => e = .returned (.bool true) ∧ Below w.heap.size w w' := by
  obtain ⟨W, HW⟩ : ∃ W, Hid ((w.alloc (.cells #[.slice Ac nc cc, .slice Af nf cf, .int .i64 dry, .int .i64 days] 25)).alloc (.cells #[.int .i64 a, .int .i64 b] 51) = W) := ⟨_, hide rfl⟩
  have xn : At W w.heap.size [.slice Ac nc cc, .slice Af nf cf, .int .i64 dry, .int .i64 days] := by rw [← HW.out]; exact (At.new w #[.slice Ac nc cc, .slice Af nf cf, .int .i64 dry, .int .i64 days] _ _ rfl _ rfl).alloc _
  have xf : At W (w.heap.size + 1) [.int .i64 a, .int .i64 b] := by rw [← HW.out]; exact At.new _ #[.int .i64 a, .int .i64 b] _ _ (by simp) _ rfl
  have hB : Below w.heap.size w W := by rw [← HW.out]; exact (below_new w _).alloc (by simp) _
  have rc := hcs.bel hB
  have rf := hfs.bel hB
  have ru := hus.bel hB
  have rby := hby.bel hB
  clear hcs hfs hus hby
  have Hc := hide hnc; have Hf := hide hnf; have Hu := hide hnu; have Hnb := hide hnb; have Hnb2 := hide hnb2; have H32 := hide h32
  clear hnc hnf hnu hnb hnb2 h32
  go_enter Try.func7, Try.ntmps7
  go_wp2_with fail
  rw [HW.out]
  clear HW
  refine (alive_any _).mono ?_
  rintro e w1 ⟨rfl, hb⟩
  replace xn := xn.bel hb
  replace xf := xf.bel hb
  replace rc := rc.bel hb
  replace rf := rf.bel hb
  replace ru := ru.bel hb
  replace rby := rby.bel hb
  replace hB := hB.trans (hb.mono hB.size)
  clear hb
  obtain ⟨q0, q1, q2, q3⟩ := xn.c4
  obtain ⟨p0, p1⟩ := xf.c2
  go_wp2_with fail
  refine (ready_any _ _ _ _ _ _ _ _ _ _ _ _ _ cs fs us _ Hc.out Hf.out rc rf ru Hu.out).mono ?_
  rintro e w2 ⟨rfl, hb⟩
  clear q0 q1 q2 q3 p0 p1
  replace xn := xn.bel hb
  replace xf := xf.bel hb
  replace rc := rc.bel hb
  replace rf := rf.bel hb
  replace ru := ru.bel hb
  replace rby := rby.bel hb
  replace hB := hB.trans (hb.mono hB.size)
  clear hb
  obtain ⟨q0, q1, q2, q3⟩ := xn.c4
  obtain ⟨p0, p1⟩ := xf.c2
  cases hr : readyB cs fs dry days a b us
  · clear hr
    go_wp2_with fail
    go_ret
    exact ⟨rfl, hB⟩
  obtain ⟨hcl, hfl, hul, hok, huo, hsp⟩ := ready_parts hr
  have hd := (netOk_parts hok).2.2.2.1
  have n1 : NetAt w2 Ac Af nc nf cs fs := ⟨rc, rf, Hc.out, Hf.out, by have := Hc.out; omega, by have := Hf.out; omega⟩
  have hnc16 : nc ≤ 16 := by have := Hc.out; have := (netOk_parts hok).1; omega
  have hnf12 : nf ≤ 12 := by have := Hf.out; have := (netOk_parts hok).2.1; omega
  have hnu60 : nu ≤ 60 := by have := Hu.out; have := usesOk_len huo; omega
  have hws : watersS cs fs dry days a b us = (watersK cs fs dry (days * 1440) a b us us.length, 0) := by
    unfold watersS
    rw [if_pos hok, if_pos hsp, if_pos huo]
  have habx := hsp
  simp only [Sp.ok, Bool.and_eq_true, decide_eq_true_eq] at habx
  obtain ⟨⟨ha0, hab⟩, hb13⟩ := habx
  have Hbd := hide (watersK_bd (dry := dry) (us := us) hok huo hsp)
  have Hok := hide hok; have Huo := hide huo; have Hsp := hide hsp; have Hws := hide hws
  clear hr hok huo hsp hws rc rf hcl hfl hul
  go_wp2_with fail
  refine (waters_fn _ _ _ _ _ _ _ _ _ _ _ _ _ _ _ us _ n1 ru Hu.out (by omega)).mono ?_
  rintro e w3 ⟨v1, v2, rfl, o1, o2, hb⟩
  simp only [Hws.out] at o1 o2 ⊢
  obtain ⟨Al, cl, rfl, rl⟩ := o1.rdn nf ((Hbd.out _ (Nat.le_refl _)).2.2.1.trans Hf.out.symm)
  obtain ⟨Aq, cq, rfl, rq⟩ := o2.rdn nc ((Hbd.out _ (Nat.le_refl _)).2.2.2.trans Hc.out.symm)
  clear o1 o2 q0 q1 q2 q3 p0 p1
  replace xn := xn.bel hb
  replace xf := xf.bel hb
  replace ru := ru.bel hb
  replace rby := rby.bel hb
  replace n1 := n1.bel hb
  replace hB := hB.trans (hb.mono hB.size)
  clear hb
  obtain ⟨q0, q1, q2, q3⟩ := xn.c4
  go_wp2_with fail
  clear q0 q1 q2 q3
  refine wp_region_held_drew (S := (fun W => Below w3.heap.size w3 W)) (by kernel_rfl) (by (try dsimp only); exact (Below.refl _ _).drew) (fun hHeld => ?_)
  generalize World.drew w3 = Wd9 at hHeld ⊢
  have hbc := Below.refl Wd9.heap.size Wd9
  refine wpAnyH_take (i := 0) (oi := ⟨_, _, _, _, _, _⟩) (v := ?_) rfl (by kernel_rfl) (by kernel_rfl) (by kernel_rfl) (fun _ _ _ h => h) (Or.inl ⟨by rfl, ?_⟩) hHeld ?_
  rotate_left
  · (intro w hSw; (try dsimp only at hSw); go_simp; try (with_reducible rfl))
  try simp only [Act.put, List.setIfInBounds_toArray, List.set_cons_zero, List.set_cons_succ]
  refine wpAnyH_take (i := 1) (oi := ⟨_, _, _, _, _, _⟩) (v := ?_) rfl (by kernel_rfl) (by kernel_rfl) (by kernel_rfl) (fun _ _ _ h => h) (Or.inl ⟨by rfl, ?_⟩) hHeld ?_
  rotate_left
  · (intro w hSw; (try dsimp only at hSw); go_simp; try (with_reducible rfl))
  try simp only [Act.put, List.setIfInBounds_toArray, List.set_cons_zero, List.set_cons_succ]
  refine wpAnyH_take (i := 3) (oi := ⟨_, _, _, _, _, _⟩) (v := ?_) rfl (by kernel_rfl) (by kernel_rfl) (by kernel_rfl) (fun _ _ _ h => h) (Or.inl ⟨by rfl, ?_⟩) hHeld ?_
  rotate_left
  · (intro w hSw; (try dsimp only at hSw); go_simp; try (with_reducible rfl))
  try simp only [Act.put, List.setIfInBounds_toArray, List.set_cons_zero, List.set_cons_succ]
  refine wpAnyH_take (i := 4) (oi := ⟨_, _, _, _, _, _⟩) (v := ?_) rfl (by kernel_rfl) (by kernel_rfl) (by kernel_rfl) (fun _ _ _ h => h) (Or.inl ⟨by rfl, ?_⟩) hHeld ?_
  rotate_left
  · (intro w hSw; (try dsimp only at hSw); go_simp; try (with_reducible rfl))
  try simp only [Act.put, List.setIfInBounds_toArray, List.set_cons_zero, List.set_cons_succ]
  refine cut2 (C := fun (b65 : Nat) (b68 : Nat) (Wc9_1 : World) => (Own Wc9_1 w3.heap.size 3 1 icell (.slice (some ⟨b65, 0, none⟩) nf nf) (List.replicate nf 0)) ∧ (Own Wc9_1 w3.heap.size 3 1 icell (.slice (some ⟨b68, 0, none⟩) nc nc) (List.replicate nc 0)) ∧ (b65 ≠ b68) ∧ Below Wd9.heap.size Wd9 Wc9_1 ∧ Below w3.heap.size w3 Wc9_1) (G := ?_) ?_ ?_
  rotate_left
  · intro hCut
    replace hbc := Below.refl Wd9.heap.size Wd9
    refine wpAnyH_ready (rs := [2, 5]) (by kernel_rfl) (by simp) ?_
    refine AllReadyH.cons (o := ⟨_, _, _, _, _, _⟩) rfl (fun K hK => ?_) ?_
    ·
      rw [if_pos (by rfl)]
      refine op_makeI (n := nf) (base := w3.heap.size) rfl hHeld.size (by first | rfl | simp [Act.eval]) (by first | rfl | simp [Act.eval]) (by omega) ?_
      intro V65 o65 hb
      obtain ⟨b65, eb65⟩ : ∃ b, Hid (Wd9.heap.size = b) := ⟨_, hide rfl⟩
      rw [eb65.out] at o65 ⊢
      try (have ne : b65 ≠ b68 := by have h1 := own_bl o68 b68 rfl; have h2 := eb65.out; omega)
      have hHeldN := hHeld.trans (hb.mono hHeld.size)
      have hbc := hbc.trans (hb.mono hbc.size)
      refine hK.out _ _ ?_ (fun hHeld2 => ?_)
      · exact hHeldN
      clear hK K hHeldN hb; have hHeld := hHeld2; clear hHeld2
      try simp only [Act.put, List.setIfInBounds_toArray, List.set_cons_zero, List.set_cons_succ]
      refine wpAnyH_take (i := 6) (oi := ⟨_, _, _, _, _, _⟩) (v := ?_) rfl (by kernel_rfl) (by kernel_rfl) (by kernel_rfl) (fun _ _ _ h => h) (Or.inl ⟨by rfl, ?_⟩) hHeld ?_
      rotate_left
      · (intro w hSw; (try dsimp only at hSw); go_simp; try (with_reducible rfl))
      try simp only [Act.put, List.setIfInBounds_toArray, List.set_cons_zero, List.set_cons_succ]
      refine wpAnyH_ready (rs := [5]) (by kernel_rfl) (by simp) ?_
      refine AllReadyH.cons (o := ⟨_, _, _, _, _, _⟩) rfl (fun K hK => ?_) AllReadyH.nil
      rw [if_pos (by rfl)]
      refine op_makeI (n := nc) (base := w3.heap.size) rfl hHeld.size (by first | rfl | simp [Act.eval]) (by first | rfl | simp [Act.eval]) (by omega) ?_
      intro V68 o68 hb
      obtain ⟨b68, eb68⟩ : ∃ b, Hid (V65.heap.size = b) := ⟨_, hide rfl⟩
      rw [eb68.out] at o68 ⊢
      try (have ne : b65 ≠ b68 := by have h1 := own_bl o65 b65 rfl; have h2 := eb68.out; omega)
      have hHeldN := hHeld.trans (hb.mono hHeld.size)
      have o65 := o65.bel hb
      have hbc := hbc.trans (hb.mono hbc.size)
      refine hK.out _ _ ?_ (fun hHeld2 => ?_)
      · exact hHeldN
      clear hK K hHeldN hb; have hHeld := hHeld2; clear hHeld2
      try simp only [Act.put, List.setIfInBounds_toArray, List.set_cons_zero, List.set_cons_succ]
      refine wpAnyH_take (i := 7) (oi := ⟨_, _, _, _, _, _⟩) (v := ?_) rfl (by kernel_rfl) (by kernel_rfl) (by kernel_rfl) (fun _ _ _ h => h) (Or.inl ⟨by rfl, ?_⟩) hHeld ?_
      rotate_left
      · (intro w hSw; (try dsimp only at hSw); go_simp; try (with_reducible rfl))
      try simp only [Act.put, List.setIfInBounds_toArray, List.set_cons_zero, List.set_cons_succ]
      exact hCut b65 b68 V68 ⟨o65, o68, ne, hbc, hHeld⟩
    refine AllReadyH.cons (o := ⟨_, _, _, _, _, _⟩) rfl (fun K hK => ?_) AllReadyH.nil
    rw [if_pos (by rfl)]
    refine op_makeI (n := nc) (base := w3.heap.size) rfl hHeld.size (by first | rfl | simp [Act.eval]) (by first | rfl | simp [Act.eval]) (by omega) ?_
    intro V68 o68 hb
    obtain ⟨b68, eb68⟩ : ∃ b, Hid (Wd9.heap.size = b) := ⟨_, hide rfl⟩
    rw [eb68.out] at o68 ⊢
    try (have ne : b65 ≠ b68 := by have h1 := own_bl o65 b65 rfl; have h2 := eb68.out; omega)
    have hHeldN := hHeld.trans (hb.mono hHeld.size)
    have hbc := hbc.trans (hb.mono hbc.size)
    refine hK.out _ _ ?_ (fun hHeld2 => ?_)
    · exact hHeldN
    clear hK K hHeldN hb; have hHeld := hHeld2; clear hHeld2
    try simp only [Act.put, List.setIfInBounds_toArray, List.set_cons_zero, List.set_cons_succ]
    refine wpAnyH_ready (rs := [2]) (by kernel_rfl) (by simp) ?_
    refine AllReadyH.cons (o := ⟨_, _, _, _, _, _⟩) rfl (fun K hK => ?_) AllReadyH.nil
    rw [if_pos (by rfl)]
    refine op_makeI (n := nf) (base := w3.heap.size) rfl hHeld.size (by first | rfl | simp [Act.eval]) (by first | rfl | simp [Act.eval]) (by omega) ?_
    intro V65 o65 hb
    obtain ⟨b65, eb65⟩ : ∃ b, Hid (V68.heap.size = b) := ⟨_, hide rfl⟩
    rw [eb65.out] at o65 ⊢
    try (have ne : b65 ≠ b68 := by have h1 := own_bl o68 b68 rfl; have h2 := eb65.out; omega)
    have hHeldN := hHeld.trans (hb.mono hHeld.size)
    have o68 := o68.bel hb
    have hbc := hbc.trans (hb.mono hbc.size)
    refine hK.out _ _ ?_ (fun hHeld2 => ?_)
    · exact hHeldN
    clear hK K hHeldN hb; have hHeld := hHeld2; clear hHeld2
    try simp only [Act.put, List.setIfInBounds_toArray, List.set_cons_zero, List.set_cons_succ]
    refine wpAnyH_take (i := 6) (oi := ⟨_, _, _, _, _, _⟩) (v := ?_) rfl (by kernel_rfl) (by kernel_rfl) (by kernel_rfl) (fun _ _ _ h => h) (Or.inl ⟨by rfl, ?_⟩) hHeld ?_
    rotate_left
    · (intro w hSw; (try dsimp only at hSw); go_simp; try (with_reducible rfl))
    try simp only [Act.put, List.setIfInBounds_toArray, List.set_cons_zero, List.set_cons_succ]
    refine wpAnyH_take (i := 7) (oi := ⟨_, _, _, _, _, _⟩) (v := ?_) rfl (by kernel_rfl) (by kernel_rfl) (by kernel_rfl) (fun _ _ _ h => h) (Or.inl ⟨by rfl, ?_⟩) hHeld ?_
    rotate_left
    · (intro w hSw; (try dsimp only at hSw); go_simp; try (with_reducible rfl))
    try simp only [Act.put, List.setIfInBounds_toArray, List.set_cons_zero, List.set_cons_succ]
    exact hCut b65 b68 V65 ⟨o65, o68, ne, hbc, hHeld⟩
  intro b65 b68 Wc9_1 ⟨o65, o68, ne, hbN, hHeldN⟩
  have hbc := hbc.trans (hbN.mono hbc.size); clear hHeld hbN; have hHeld := hHeldN; clear hHeldN
  refine wpAnyH_done (by kernel_rfl) ?_ _
  have tq : TQ w3 b65 b68 nf nc (List.replicate nf 0) (List.replicate nc 0) Wc9_1 := ⟨hHeld, o65, o68, ne, by simp, by simp⟩
  have Hxn := hide xn; have Hxf := hide xf; have Hru := hide ru; have Hrby := hide rby; have Hn1 := hide n1; have Hrl := hide rl; have Hrq := hide rq; have Htq := hide tq
  clear xn xf ru rby n1 rl rq tq o65 o68 ne hbc hHeld
  go_wp2_with fail
  go_loopw [15, 71] (fun s i wr => ∃ (k : Nat) (G L : List Int) (T : Int), k ≤ nu ∧ i = .int .i64 k ∧ s = .int .i64 T ∧ Hid (TQ w3 b65 b68 nf nc G L wr) ∧ Hid (ptIn G (watersK cs fs dry (days * 1440) a b us k).1) ∧ Hid (ptIn L (watersK cs fs dry (days * 1440) a b us k).2) ∧ Hid (T = sumI G + sumI L) ∧ 0 ≤ T ∧ T ≤ k * 1000000000000) (fun _ i _ => nu - (intOf i).toNat)
  case atStart => exact ⟨0, _, _, 0, by omega, rfl, rfl, Htq, hide (by rw [Hf.out]; exact ptIn.zero _), hide (by rw [Hc.out]; exact ptIn.zero _), hide (by rw [sumI_zero, sumI_zero]; rfl), by omega, by omega⟩
  case round =>
    clear Htq
    obtain ⟨k, G, L, T, hk, rfl, rfl, htq, HG, HL, HT, hT0, hT1⟩ := hrel
    obtain ⟨wo, rfl⟩ : ∃ wo, wo = wr := ⟨wr, rfl⟩
    by_cases hlt : k < nu
    · have bl := htq.out.bl
      obtain ⟨bu, off, f, s, t, rfl, hbu, hx, c0, c1, c2⟩ := (Hru.out.bel bl).us (i := k) (by have := Hu.out; omega)
      have hm := usesOk_mem Huo.out (List.mem_of_getElem? hx)
      obtain ⟨⟨f0, f1⟩, hs0, hst, htc⟩ := hm
      dsimp only at f0 f1 hs0 hst htc
      have Hxk := hide hx
      have i0 : (0 : Int) ≤ (k : Int) := by omega
      have i1 : (k : Int) < (nu : Int) := by omega
      have hva := flow_amts (m := t - s) Hsp.out hd (by omega) (by omega)
      have Hva := hide hva
      obtain ⟨b17, w7, eb17, ew17, x17, _, hb1⟩ := mk_box wo #[.int .i64 f, .int .i64 s, .int .i64 t] 74
      have tq := htq.out.bel hb1
      have rby := (Hrby.out.bel bl).bel hb1
      have xf := (Hxf.out.bel bl).bel hb1
      have hlt17 : b17 ≠ b65 ∧ b17 ≠ b68 := by have h1 := htq.out.g1b; have h2 := htq.out.g2b; have h3 := eb17.out; omega
      have fts : IntKind.i64.wrap (t - s) = t - s := wrapI (by omega)
      clear hx hva bl
      go_wp2_with fail
      rw [ew17.out, eb17.out]
      clear ew17 c0 c1 c2 hb1 htq
      have Hx := hide xf; have Hu17 := hide x17
      refine wp_region_held_drew (S := (fun W => Below w7.heap.size w7 W)) (by kernel_rfl) (by (try dsimp only); exact (Below.refl _ _).drew) (fun hHeld => ?_)
      generalize World.drew w7 = Wd14 at hHeld ⊢
      have rby := rby.bel hHeld
      have tq := tq.bel hHeld
      have x17 := x17.bel hHeld
      have hbc := Below.refl Wd14.heap.size Wd14
      refine wpAnyH_take (i := 0) (oi := ⟨_, _, _, _, _, _⟩) (v := ?_) rfl (by kernel_rfl) (by kernel_rfl) (by kernel_rfl) (fun _ _ _ h => h) (Or.inl ⟨by rfl, ?_⟩) hHeld ?_
      rotate_left
      · (intro w hSw; (try dsimp only at hSw); obtain ⟨p0, p1⟩ := (Hx.out.below hSw).c2; obtain ⟨y0, y1, y2⟩ := (Hu17.out.below hSw).c3; go_simp; try (with_reducible rfl))
      try simp only [Act.put, List.setIfInBounds_toArray, List.set_cons_zero, List.set_cons_succ]
      refine wpAnyH_take (i := 1) (oi := ⟨_, _, _, _, _, _⟩) (v := ?_) rfl (by kernel_rfl) (by kernel_rfl) (by kernel_rfl) (fun _ _ _ h => h) (Or.inl ⟨by rfl, ?_⟩) hHeld ?_
      rotate_left
      · (intro w hSw; (try dsimp only at hSw); go_simp; try (with_reducible rfl))
      try simp only [Act.put, List.setIfInBounds_toArray, List.set_cons_zero, List.set_cons_succ]
      refine wpAnyH_take (i := 2) (oi := ⟨_, _, _, _, _, _⟩) (v := ?_) rfl (by kernel_rfl) (by kernel_rfl) (by kernel_rfl) (fun _ _ _ h => h) (Or.inl ⟨by rfl, ?_⟩) hHeld ?_
      rotate_left
      · (intro w hSw; (try dsimp only at hSw); go_simp; try (with_reducible rfl))
      try simp only [Act.put, List.setIfInBounds_toArray, List.set_cons_zero, List.set_cons_succ]
      refine wpAnyH_take (i := 5) (oi := ⟨_, _, _, _, _, _⟩) (v := ?_) rfl (by kernel_rfl) (by kernel_rfl) (by kernel_rfl) (fun _ _ _ h => h) (Or.inl ⟨by rfl, ?_⟩) hHeld ?_
      rotate_left
      · (intro w hSw; (try dsimp only at hSw); go_simp; try (with_reducible rfl))
      try simp only [Act.put, List.setIfInBounds_toArray, List.set_cons_zero, List.set_cons_succ]
      refine wpAnyH_take (i := 6) (oi := ⟨_, _, _, _, _, _⟩) (v := ?_) rfl (by kernel_rfl) (by kernel_rfl) (by kernel_rfl) (fun _ _ _ h => h) (Or.inl ⟨by rfl, ?_⟩) hHeld ?_
      rotate_left
      · (intro w hSw; (try dsimp only at hSw); go_simp; try (with_reducible rfl))
      try simp only [Act.put, List.setIfInBounds_toArray, List.set_cons_zero, List.set_cons_succ]
      refine wpAnyH_take (i := 7) (oi := ⟨_, _, _, _, _, _⟩) (v := ?_) rfl (by kernel_rfl) (by kernel_rfl) (by kernel_rfl) (fun _ _ _ h => h) (Or.inl ⟨by rfl, ?_⟩) hHeld ?_
      rotate_left
      · (intro w hSw; (try dsimp only at hSw); obtain ⟨p0, p1⟩ := (Hx.out.below hSw).c2; obtain ⟨y0, y1, y2⟩ := (Hu17.out.below hSw).c3; go_simp; try (with_reducible rfl))
      try simp only [Act.put, List.setIfInBounds_toArray, List.set_cons_zero, List.set_cons_succ]
      refine wpAnyH_take (i := 8) (oi := ⟨_, _, _, _, _, _⟩) (v := ?_) rfl (by kernel_rfl) (by kernel_rfl) (by kernel_rfl) (fun _ _ _ h => h) (Or.inl ⟨by rfl, ?_⟩) hHeld ?_
      rotate_left
      · (intro w hSw; (try dsimp only at hSw); go_simp; try (with_reducible rfl))
      try simp only [Act.put, List.setIfInBounds_toArray, List.set_cons_zero, List.set_cons_succ]
      refine wpAnyH_take (i := 9) (oi := ⟨_, _, _, _, _, _⟩) (v := ?_) rfl (by kernel_rfl) (by kernel_rfl) (by kernel_rfl) (fun _ _ _ h => h) (Or.inl ⟨by rfl, ?_⟩) hHeld ?_
      rotate_left
      · (intro w hSw; (try dsimp only at hSw); go_simp; try (with_reducible rfl))
      try simp only [Act.put, List.setIfInBounds_toArray, List.set_cons_zero, List.set_cons_succ]
      refine wpAnyH_take (i := 10) (oi := ⟨_, _, _, _, _, _⟩) (v := ?_) rfl (by kernel_rfl) (by kernel_rfl) (by kernel_rfl) (fun _ _ _ h => h) (Or.inl ⟨by rfl, ?_⟩) hHeld ?_
      rotate_left
      · (intro w hSw; (try dsimp only at hSw); obtain ⟨p0, p1⟩ := (Hx.out.below hSw).c2; obtain ⟨y0, y1, y2⟩ := (Hu17.out.below hSw).c3; go_simp; try (with_reducible rfl))
      try simp only [Act.put, List.setIfInBounds_toArray, List.set_cons_zero, List.set_cons_succ]
      refine wpAnyH_take (i := 11) (oi := ⟨_, _, _, _, _, _⟩) (v := ?_) rfl (by kernel_rfl) (by kernel_rfl) (by kernel_rfl) (fun _ _ _ h => h) (Or.inl ⟨by rfl, ?_⟩) hHeld ?_
      rotate_left
      · (intro w hSw; (try dsimp only at hSw); go_simp; try (with_reducible rfl))
      try simp only [Act.put, List.setIfInBounds_toArray, List.set_cons_zero, List.set_cons_succ]
      refine wpAnyH_ready (rs := [3]) (by kernel_rfl) (by simp) ?_
      refine AllReadyH.cons (o := ⟨_, _, _, _, _, _⟩) rfl (fun K hK => ?_) AllReadyH.nil
      go_simp
      refine (at_any _ _ _ bys _ _ Hnb.out H32.out rby Hnb2.out (by omega) (by omega)).mono ?_
      rintro e V79 ⟨m79, rfl, hm79, hb⟩
      go_wp2_with fail
      have hHeldN := hHeld.trans (hb.mono hHeld.size)
      have rby := rby.bel hb
      have tq := tq.bel hb
      have x17 := x17.bel hb
      have hbc := hbc.trans (hb.mono hbc.size)
      refine hK.out _ _ ?_ (fun hHeld2 => ?_)
      · exact hHeldN
      clear hK K hHeld hHeldN hb; have hHeld := hHeld2; clear hHeld2
      try simp only [Act.put, List.setIfInBounds_toArray, List.set_cons_zero, List.set_cons_succ]
      refine wpAnyH_ready (rs := [4]) (by kernel_rfl) (by simp) ?_
      refine AllReadyH.cons (o := ⟨_, _, _, _, _, _⟩) rfl (fun K hK => ?_) AllReadyH.nil
      go_simp
      refine (pick_any _ _ _ _ ha0 hab (by omega) hm79).mono ?_
      rintro e V80 ⟨r80, rfl, hr80, hb⟩
      have fv : IntKind.i64.wrap (r80 * (t - s)) = r80 * (t - s) := by
        have h1 := (flow_in (m := t - s) (by omega) hr80); have h2 := Hva.out; unfold inS at h1; unfold amts amt at h2; dsimp only at h1 h2; exact wrapI (by omega)
      go_wp2_with fail
      have hHeldN := hHeld.trans (hb.mono hHeld.size)
      have rby := rby.bel hb
      have tq := tq.bel hb
      have x17 := x17.bel hb
      have hbc := hbc.trans (hb.mono hbc.size)
      refine hK.out _ _ ?_ (fun hHeld2 => ?_)
      · exact hHeldN
      clear hK K hHeld hHeldN hb; have hHeld := hHeld2; clear hHeld2
      try simp only [Act.put, List.setIfInBounds_toArray, List.set_cons_zero, List.set_cons_succ]
      refine wpAnyH_take (i := 12) (oi := ⟨_, _, _, _, _, _⟩) (v := ?_) rfl (by kernel_rfl) (by kernel_rfl) (by kernel_rfl) (fun _ _ _ h => h) (Or.inl ⟨by rfl, ?_⟩) hHeld ?_
      rotate_left
      · (intro w hSw; (try dsimp only at hSw); go_simp; try (with_reducible rfl))
      try simp only [Act.put, List.setIfInBounds_toArray, List.set_cons_zero, List.set_cons_succ]
      refine wpAnyH_take (i := 13) (oi := ⟨_, _, _, _, _, _⟩) (v := ?_) rfl (by kernel_rfl) (by kernel_rfl) (by kernel_rfl) (fun _ _ _ h => h) (Or.inl ⟨by rfl, ?_⟩) hHeld ?_
      rotate_left
      · (intro w hSw; (try dsimp only at hSw); go_simp; try (with_reducible rfl))
      try simp only [Act.put, List.setIfInBounds_toArray, List.set_cons_zero, List.set_cons_succ]
      refine wpAnyH_done (by kernel_rfl) ?_ _
      clear hbc hHeld Hx Hu17 xf rby
      have hxf0 := flow_in (m := t - s) (by omega) hr80
      obtain ⟨x0, hx0⟩ : ∃ x0, x0 = r80 * (t - s) := ⟨_, rfl⟩
      rw [← hx0] at hxf0 fv ⊢
      have hx0b : 0 ≤ x0 ∧ x0 ≤ 1000000000000 := by have h2 := Hva.out; unfold amts amt at h2; unfold inS at hxf0; dsimp only at h2 hxf0; omega
      have Hxf0 := hide hxf0
      have n1 := Hn1.out.bel tq.bl
      have xn := Hxn.out.bel tq.bl
      obtain ⟨q0, q1, q2, q3⟩ := xn.c4
      obtain ⟨y0, y1, y2⟩ := x17.c3
      clear hx0 hr80 hxf0 fv fts hm79
      go_wp2_with fail
      refine (along_any Ac Af nc cc nf cf dry days cs fs f _ n1 Hok.out f0 (by have := Hf.out; omega)).mono ?_
      rintro e w8 ⟨v, rfl, op, hb⟩
      obtain ⟨p, hpe⟩ : ∃ p, p = pathK cs fs f := ⟨_, rfl⟩
      rw [← hpe] at op
      obtain ⟨n, hn⟩ : ∃ n, n = p.length := ⟨_, rfl⟩
      obtain ⟨Ap, cp, rfl, _⟩ := op.rdn n hn.symm
      have hn16 : n ≤ 16 := by rw [hn, hpe]; exact pathK_len cs fs Hok.out f0 f1
      have hpm : ∀ c ∈ p, 0 ≤ c ∧ c < nc := fun c hc => by rw [hpe] at hc; have h := upK_okI Hok.out f0 f1 (mem_pathK.1 hc); have := Hc.out; omega
      have hg2 : V80.heap.size > b65 ∧ V80.heap.size > b68 := ⟨tq.g1b.2, tq.g2b.2⟩
      have h17l : b17 < V80.heap.size := x17.1
      replace tq := tq.bel hb
      replace x17 := x17.bel hb
      obtain ⟨L0, hL0⟩ : ∃ L0, L0 = (watersK cs fs dry (days * 1440) a b us k).2 := ⟨_, rfl⟩
      have HL0 := hide hL0
      rw [← hL0] at HL
      have hbd := (Hbd.out k (by have := Hu.out; omega)).2.1
      rw [← hL0] at hbd
      have Hbk := hide hbd
      have Htq := hide tq; have Hop := hide op; have Hx17 := hide x17; have Hpe := hide hpe; have Hnp := hide hn; have Hpm := hide hpm
      clear q0 q1 q2 q3 y0 y1 y2 hb xn n1 tq op x17 hpe hn hpm hL0 hbd
      go_wp2_with fail
      go_loopw [18, 97] (fun v i W2 => ∃ (q : Nat) (M : List Int) (x : Int), q ≤ n ∧ i = .int .i64 q ∧ v = .int .i64 x ∧ Hid (TQ w3 b65 b68 nf nc G M W2) ∧ Hid (Own W2 V80.heap.size 3 1 icell (.slice Ap n cp) p) ∧ Hid (At W2 b17 [.int .i64 f, .int .i64 s, .int .i64 t]) ∧ Hid (ptIn M (pathW cs (dryL cs fs dry (days * 1440) us k) (p.take q) L0 ⟨a * (t - s), b * (t - s)⟩).1) ∧ Hid (inS (pathW cs (dryL cs fs dry (days * 1440) us k) (p.take q) L0 ⟨a * (t - s), b * (t - s)⟩).2 x) ∧ Hid (sumI M + x = sumI L + x0) ∧ 0 ≤ x ∧ x ≤ x0) (fun _ i _ => n - (intOf i).toNat)
      case atStart => exact ⟨0, L, x0, by omega, rfl, rfl, Htq, Hop, Hx17, HL, Hxf0, hide rfl, by omega, by omega⟩
      case round =>
        clear Htq Hop Hx17
        obtain ⟨q, M, x, hq, rfl, rfl, htq, hop, hx17, HM, Hx, HS, hx1, hx2⟩ := hrel
        obtain ⟨W2, rfl⟩ : ∃ W2, W2 = wr := ⟨wr, rfl⟩
        by_cases hql : q < n
        · obtain ⟨A2, d2, hv2, hpr⟩ := hop.out.rdn n Hnp.out.symm
          injection hv2 with hv2 h2_ h3_
          subst hv2 h3_
          clear h2_
          obtain ⟨bp, offp, c, rfl, hbp, hxc, c0⟩ := hpr.int (i := q) (by have := Hnp.out; omega)
          obtain ⟨hc0, hc1⟩ := Hpm.out c (List.mem_of_getElem? hxc)
          obtain ⟨cn, rfl⟩ : ∃ cn : Nat, c = cn := ⟨c.toNat, by omega⟩
          have bl := htq.out.bl
          obtain ⟨bc, offc, cf0, s0, s1, l0, l1, rfl, hbc, hxca, e0, e1, e2, e3, e4⟩ := (Hn1.out.bel bl).rc.ca (i := cn) (by have := Hc.out; omega)
          have hca := (caAll_iff 0 cs).1 (netOk_parts Hok.out).2.2.2.2.2.1 _ _ hxca
          simp only [caOk, inB, Sp.ok, Bool.and_eq_true, decide_eq_true_eq] at hca
          obtain ⟨_, ⟨⟨hs1, hs2⟩, hs3⟩, ⟨hl1, hl2⟩, hl3⟩ := hca
          have hs : 0 ≤ s0 ∧ s0 ≤ s1 ∧ s1 ≤ 1000 := ⟨hs1, hs2, hs3⟩
          have hl : 0 ≤ l0 ∧ l0 ≤ l1 ∧ l1 ≤ 10000000 := ⟨hl1, hl2, hl3⟩
          have Hxc := hide hxc; have Hxca := hide hxca
          have j0 : (0 : Int) ≤ (q : Int) := by omega
          have j1 : (q : Int) < (n : Int) := by omega
          have j2 : (cn : Int) < (nc : Int) := hc1
          obtain ⟨b21, w9, eb21, ew21, x21, _, hb1⟩ := mk_box W2 #[.int .i64 cf0, .int .i64 s0, .int .i64 s1, .int .i64 l0, .int .i64 l1] 83
          have tq := htq.out.bel hb1
          have op := hop.out.bel hb1
          have x17 := hx17.out.bel hb1
          have rby := (Hrby.out.bel bl).bel hb1
          have n1 := (Hn1.out.bel bl).bel hb1
          have ru := (Hru.out.bel bl).bel hb1
          have xn := (Hxn.out.bel bl).bel hb1
          have hlt21 : b21 ≠ b65 ∧ b21 ≠ b68 := by have h1 := htq.out.g1b; have h2 := htq.out.g2b; have h3 := eb21.out; omega
          have ee := xn
          rw [← ew21.out] at ee
          obtain ⟨z0, z1, z2, z3⟩ := ee.c4
          obtain ⟨q0, q1, q2, q3⟩ := (Hxn.out.bel bl).c4
          clear hxc hxca ee hpr hs1 hs2 hs3 hl1 hl2 hl3 xn bl
          go_wp2_with fail
          rw [ew21.out, eb21.out]
          clear z0 z1 z2 z3 q0 q1 q2 q3 ew21 c0 e0 e1 e2 e3 e4 hb1 htq hop hx17
          refine (parched_any _ _ _ _ _ _ _ _ _ k _ _ (cn : Int) f s t cs fs us w9 n1 ru Hu.out Hok.out (by rw [Hf.out]; exact Huo.out) Hxk.out).mono ?_
          rintro e w10 ⟨rfl, hb⟩
          rw [parched_dry Hok.out Huo.out Hxk.out (by show (cn : Int) ∈ pathK cs fs f; rw [← Hpe.out]; exact List.mem_of_getElem? Hxc.out)]
          replace tq := tq.bel hb
          replace op := op.bel hb
          replace x17 := x17.bel hb
          replace x21 := x21.bel hb
          replace rby := rby.bel hb
          clear hb n1 ru
          have Hc21 := hide x21
          have g2k : IntKind.i64.wrap (2 * (k : Int)) = 2 * (k : Int) := wrapI (by omega)
          have g2q : IntKind.i64.wrap (2 * (k : Int) + (q : Int)) = 2 * (k : Int) + (q : Int) := wrapI (by omega)
          have g2r : IntKind.i64.wrap (2 * (k : Int) + (q : Int) + 1) = 2 * (k : Int) + (q : Int) + 1 := wrapI (by omega)
          have g3k : IntKind.i64.wrap (3 * (k : Int)) = 3 * (k : Int) := wrapI (by omega)
          have g3q : IntKind.i64.wrap (3 * (k : Int) + (q : Int)) = 3 * (k : Int) + (q : Int) := wrapI (by omega)
          have hmbd : ∀ i, 0 ≤ atI M i ∧ atI M i ≤ 100000000000000000 := fun i => by
            have hb := (pathW_amts (M := k * 16000000000000) Hok.out (dryL cs fs dry (days * 1440) us k) p L0 Hva.out (by omega) Hbk.out q (by have := Hnp.out; omega)).2.1
            have h1 := hb.at (by omega) i
            have h2 := HM.out.2 i
            unfold inS at h2
            omega
          have Hmbd := hide hmbd
          clear hmbd
          have hstep : ∀ f e : Int, inS ⟨s0, s1⟩ e → (if decide ((cn : Int) ∈ dryL cs fs dry (days * 1440) us k) then inS ⟨l0, l1⟩ f else f = 0) →
              ptIn (M.set cn (atI M cn + (x - downF x f (1000 - e)))) (pathW cs (dryL cs fs dry (days * 1440) us k) (p.take (q + 1)) L0 ⟨a * (t - s), b * (t - s)⟩).1 ∧ inS (pathW cs (dryL cs fs dry (days * 1440) us k) (p.take (q + 1)) L0 ⟨a * (t - s), b * (t - s)⟩).2 (downF x f (1000 - e)) ∧ 0 ≤ downF x f (1000 - e) ∧ downF x f (1000 - e) ≤ x := fun f e he hf =>
            path_step (ca := ⟨cf0, ⟨s0, s1⟩, ⟨l0, l1⟩⟩) Hok.out Hxc.out Hxca.out (by rw [tq.ll]; show cn < nc; omega) HM.out Hx.out hx1 he hf
          have Hstep := hide hstep
          clear hstep
          cases hdr : decide ((cn : Int) ∈ dryL cs fs dry (days * 1440) us k)
          · have Hdr := hide hdr
            clear hdr
            have fx : IntKind.i64.wrap x = x := wrapI (by omega)
            go_wp2_with fail
            refine wp_region_held_drew (S := (fun W => Below w10.heap.size w10 W)) (by kernel_rfl) (by (try dsimp only); exact (Below.refl _ _).drew) (fun hHeld => ?_)
            generalize World.drew w10 = Wd23 at hHeld ⊢
            have rby := rby.bel hHeld
            have tq := tq.bel hHeld
            have x17 := x17.bel hHeld
            have op := op.bel hHeld
            have hbc := Below.refl Wd23.heap.size Wd23
            refine wpAnyH_take (i := 0) (oi := ⟨_, _, _, _, _, _⟩) (v := ?_) rfl (by kernel_rfl) (by kernel_rfl) (by kernel_rfl) (fun _ _ _ h => h) (Or.inl ⟨by rfl, ?_⟩) hHeld ?_
            rotate_left
            · (intro w hSw; (try dsimp only at hSw); go_simp; try (with_reducible rfl))
            try simp only [Act.put, List.setIfInBounds_toArray, List.set_cons_zero, List.set_cons_succ]
            refine wpAnyH_take (i := 1) (oi := ⟨_, _, _, _, _, _⟩) (v := ?_) rfl (by kernel_rfl) (by kernel_rfl) (by kernel_rfl) (fun _ _ _ h => h) (Or.inl ⟨by rfl, ?_⟩) hHeld ?_
            rotate_left
            · (intro w hSw; (try dsimp only at hSw); go_simp; try (with_reducible rfl))
            try simp only [Act.put, List.setIfInBounds_toArray, List.set_cons_zero, List.set_cons_succ]
            refine wpAnyH_take (i := 2) (oi := ⟨_, _, _, _, _, _⟩) (v := ?_) rfl (by kernel_rfl) (by kernel_rfl) (by kernel_rfl) (fun _ _ _ h => h) (Or.inl ⟨by rfl, ?_⟩) hHeld ?_
            rotate_left
            · (intro w hSw; (try dsimp only at hSw); go_simp; try (with_reducible rfl))
            try simp only [Act.put, List.setIfInBounds_toArray, List.set_cons_zero, List.set_cons_succ]
            refine wpAnyH_take (i := 3) (oi := ⟨_, _, _, _, _, _⟩) (v := ?_) rfl (by kernel_rfl) (by kernel_rfl) (by kernel_rfl) (fun _ _ _ h => h) (Or.inl ⟨by rfl, ?_⟩) hHeld ?_
            rotate_left
            · (intro w hSw; (try dsimp only at hSw); go_simp; try (with_reducible rfl))
            try simp only [Act.put, List.setIfInBounds_toArray, List.set_cons_zero, List.set_cons_succ]
            refine wpAnyH_take (i := 4) (oi := ⟨_, _, _, _, _, _⟩) (v := ?_) rfl (by kernel_rfl) (by kernel_rfl) (by kernel_rfl) (fun _ _ _ h => h) (Or.inl ⟨by rfl, ?_⟩) hHeld ?_
            rotate_left
            · (intro w hSw; (try dsimp only at hSw); obtain ⟨y0, y1, y2, y3, y4⟩ := (Hc21.out.below hSw).c5; go_simp; try (with_reducible rfl))
            try simp only [Act.put, List.setIfInBounds_toArray, List.set_cons_zero, List.set_cons_succ]
            refine wpAnyH_take (i := 5) (oi := ⟨_, _, _, _, _, _⟩) (v := ?_) rfl (by kernel_rfl) (by kernel_rfl) (by kernel_rfl) (fun _ _ _ h => h) (Or.inl ⟨by rfl, ?_⟩) hHeld ?_
            rotate_left
            · (intro w hSw; (try dsimp only at hSw); go_simp; try (with_reducible rfl))
            try simp only [Act.put, List.setIfInBounds_toArray, List.set_cons_zero, List.set_cons_succ]
            refine wpAnyH_take (i := 6) (oi := ⟨_, _, _, _, _, _⟩) (v := ?_) rfl (by kernel_rfl) (by kernel_rfl) (by kernel_rfl) (fun _ _ _ h => h) (Or.inl ⟨by rfl, ?_⟩) hHeld ?_
            rotate_left
            · (intro w hSw; (try dsimp only at hSw); go_simp; try (with_reducible rfl))
            try simp only [Act.put, List.setIfInBounds_toArray, List.set_cons_zero, List.set_cons_succ]
            refine wpAnyH_take (i := 7) (oi := ⟨_, _, _, _, _, _⟩) (v := ?_) rfl (by kernel_rfl) (by kernel_rfl) (by kernel_rfl) (fun _ _ _ h => h) (Or.inl ⟨by rfl, ?_⟩) hHeld ?_
            rotate_left
            · (intro w hSw; (try dsimp only at hSw); go_simp; try (with_reducible rfl))
            try simp only [Act.put, List.setIfInBounds_toArray, List.set_cons_zero, List.set_cons_succ]
            refine wpAnyH_take (i := 8) (oi := ⟨_, _, _, _, _, _⟩) (v := ?_) rfl (by kernel_rfl) (by kernel_rfl) (by kernel_rfl) (fun _ _ _ h => h) (Or.inl ⟨by rfl, ?_⟩) hHeld ?_
            rotate_left
            · (intro w hSw; (try dsimp only at hSw); go_simp; try (with_reducible rfl))
            try simp only [Act.put, List.setIfInBounds_toArray, List.set_cons_zero, List.set_cons_succ]
            refine wpAnyH_take (i := 9) (oi := ⟨_, _, _, _, _, _⟩) (v := ?_) rfl (by kernel_rfl) (by kernel_rfl) (by kernel_rfl) (fun _ _ _ h => h) (Or.inl ⟨by rfl, ?_⟩) hHeld ?_
            rotate_left
            · (intro w hSw; (try dsimp only at hSw); go_simp; try (with_reducible rfl))
            try simp only [Act.put, List.setIfInBounds_toArray, List.set_cons_zero, List.set_cons_succ]
            refine wpAnyH_take (i := 10) (oi := ⟨_, _, _, _, _, _⟩) (v := ?_) rfl (by kernel_rfl) (by kernel_rfl) (by kernel_rfl) (fun _ _ _ h => h) (Or.inl ⟨by rfl, ?_⟩) hHeld ?_
            rotate_left
            · (intro w hSw; (try dsimp only at hSw); go_simp; try (with_reducible rfl))
            try simp only [Act.put, List.setIfInBounds_toArray, List.set_cons_zero, List.set_cons_succ]
            refine wpAnyH_ready (rs := [11]) (by kernel_rfl) (by simp) ?_
            refine AllReadyH.cons (o := ⟨_, _, _, _, _, _⟩) rfl (fun K hK => ?_) AllReadyH.nil
            go_simp
            refine (at_any _ _ _ bys _ _ Hnb.out H32.out rby Hnb2.out (by omega) (by omega)).mono ?_
            rintro e V134 ⟨m134, rfl, hm134, hb⟩
            go_wp2_with fail
            have hHeldN := hHeld.trans (hb.mono hHeld.size)
            have rby := rby.bel hb
            have tq := tq.bel hb
            have x17 := x17.bel hb
            have op := op.bel hb
            have hbc := hbc.trans (hb.mono hbc.size)
            refine hK.out _ _ ?_ (fun hHeld2 => ?_)
            · exact hHeldN
            clear hK K hHeld hHeldN hb; have hHeld := hHeld2; clear hHeld2
            try simp only [Act.put, List.setIfInBounds_toArray, List.set_cons_zero, List.set_cons_succ]
            refine wpAnyH_ready (rs := [12]) (by kernel_rfl) (by simp) ?_
            refine AllReadyH.cons (o := ⟨_, _, _, _, _, _⟩) rfl (fun K hK => ?_) AllReadyH.nil
            go_simp
            refine (pick_any _ _ _ _ hs.1 hs.2.1 (by omega) hm134).mono ?_
            rintro e V135 ⟨r135, rfl, hr135, hb⟩
            have he := hr135
            unfold inS at he
            dsimp only at he
            have hnx := next_raw0 (x := x) (e := r135) ⟨hx1, by omega⟩ (by omega) (by omega)
            obtain ⟨hy0, hy1, hy2, hy3⟩ := hnx
            have f136 : IntKind.i64.wrap (1000 - r135) = 1000 - r135 := wrapI (by omega)
            have f137 : IntKind.i64.wrap (x * (1000 - r135)) = x * (1000 - r135) := wrapI (by omega)
            have f138 : IntKind.i64.wrap (Int.tdiv (x * (1000 - r135)) 1000) = downF x 0 (1000 - r135) := by rw [Int.tdiv_eq_ediv_of_nonneg hy1, hy3]; have := (Hstep.out 0 r135 hr135 (by simp [Hdr.out])).2.2; exact wrapI (by omega)
            go_wp2_with fail
            have hHeldN := hHeld.trans (hb.mono hHeld.size)
            have rby := rby.bel hb
            have tq := tq.bel hb
            have x17 := x17.bel hb
            have op := op.bel hb
            have hbc := hbc.trans (hb.mono hbc.size)
            refine hK.out _ _ ?_ (fun hHeld2 => ?_)
            · exact hHeldN
            clear hK K hHeld hHeldN hb; have hHeld := hHeld2; clear hHeld2
            try simp only [Act.put, List.setIfInBounds_toArray, List.set_cons_zero, List.set_cons_succ]
            refine wpAnyH_take (i := 13) (oi := ⟨_, _, _, _, _, _⟩) (v := ?_) rfl (by kernel_rfl) (by kernel_rfl) (by kernel_rfl) (fun _ _ _ h => h) (Or.inl ⟨by rfl, ?_⟩) hHeld ?_
            rotate_left
            · (intro w hSw; (try dsimp only at hSw); go_simp; try (with_reducible rfl))
            try simp only [Act.put, List.setIfInBounds_toArray, List.set_cons_zero, List.set_cons_succ]
            refine wpAnyH_take (i := 14) (oi := ⟨_, _, _, _, _, _⟩) (v := ?_) rfl (by kernel_rfl) (by kernel_rfl) (by kernel_rfl) (fun _ _ _ h => h) (Or.inl ⟨by rfl, ?_⟩) hHeld ?_
            rotate_left
            · (intro w hSw; (try dsimp only at hSw); go_simp; try (with_reducible rfl))
            try simp only [Act.put, List.setIfInBounds_toArray, List.set_cons_zero, List.set_cons_succ]
            refine wpAnyH_take (i := 15) (oi := ⟨_, _, _, _, _, _⟩) (v := ?_) rfl (by kernel_rfl) (by kernel_rfl) (by kernel_rfl) (fun _ _ _ h => h) (Or.inl ⟨by rfl, ?_⟩) hHeld ?_
            rotate_left
            · (intro w hSw; (try dsimp only at hSw); go_simp; try (with_reducible rfl))
            try simp only [Act.put, List.setIfInBounds_toArray, List.set_cons_zero, List.set_cons_succ]
            refine wpAnyH_take (i := 16) (oi := ⟨_, _, _, _, _, _⟩) (v := ?_) rfl (by kernel_rfl) (by kernel_rfl) (by kernel_rfl) (fun _ _ _ h => h) (Or.inl ⟨by rfl, ?_⟩) hHeld ?_
            rotate_left
            · (intro w hSw; (try dsimp only at hSw); go_simp; try (with_reducible rfl))
            try simp only [Act.put, List.setIfInBounds_toArray, List.set_cons_zero, List.set_cons_succ]
            refine wpAnyH_done (by kernel_rfl) ?_ _
            clear hbc hHeld
            obtain ⟨h1, h2, h3, h4⟩ := Hstep.out 0 r135 hr135 (by simp [Hdr.out])
            obtain ⟨y, hy⟩ : ∃ y, y = downF x 0 (1000 - r135) := ⟨_, rfl⟩
            rw [← hy] at h1 h2 h3 h4 ⊢
            obtain ⟨t1, k0, k1⟩ := tq.set2 (i := cn) (by omega) (atI M cn + (x - y))
            have hmb := (HM.out).2 cn
            have hmb2 : 0 ≤ atI M cn ∧ atI M cn ≤ 100000000000000000 := Hmbd.out cn
            have fxy : IntKind.i64.wrap (x - y) = x - y := wrapI (by omega)
            have fst : IntKind.i64.wrap (atI M cn + (x - y)) = atI M cn + (x - y) := wrapI (by omega)
            have op' := op.setCell (p := ⟨b68, cn, none⟩) (fun e => by have := own_bl op b68 e; omega) (.int .i64 (atI M cn + (x - y)))
            have x17' := x17.other (r := b68) cn (.int .i64 (atI M cn + (x - y))) (by omega)
            have Ht1 := hide t1; have Hop' := hide op'; have Hx17' := hide x17'; have H1 := hide h1; have H2 := hide h2
            have HS2 : Hid (sumI (M.set cn (atI M cn + (x - y))) + y = sumI L + x0) := hide (by rw [sumI_set M cn _ (by rw [tq.ll]; omega)]; have := HS.out; omega)
            clear hy t1 op' x17' h1 h2 hmb op x17 tq rby x21 Hc21
            go_wp2_with fail
            exact ⟨⟨q + 1, _, y, by omega, by go_num, rfl, Ht1, Hop', Hx17', H1, H2, HS2, h3, by omega⟩, by simp [intOf]; omega⟩
          · have Hdr := hide hdr
            clear hdr
            go_wp2_with fail
            refine wp_region_held_drew (S := (fun W => Below w10.heap.size w10 W)) (by kernel_rfl) (by (try dsimp only); exact (Below.refl _ _).drew) (fun hHeld => ?_)
            generalize World.drew w10 = Wd22 at hHeld ⊢
            have rby := rby.bel hHeld
            have tq := tq.bel hHeld
            have x17 := x17.bel hHeld
            have op := op.bel hHeld
            have x21 := x21.bel hHeld
            have hbc := Below.refl Wd22.heap.size Wd22
            refine wpAnyH_take (i := 0) (oi := ⟨_, _, _, _, _, _⟩) (v := ?_) rfl (by kernel_rfl) (by kernel_rfl) (by kernel_rfl) (fun _ _ _ h => h) (Or.inl ⟨by rfl, ?_⟩) hHeld ?_
            rotate_left
            · (intro w hSw; (try dsimp only at hSw); go_simp; try (with_reducible rfl))
            try simp only [Act.put, List.setIfInBounds_toArray, List.set_cons_zero, List.set_cons_succ]
            refine wpAnyH_take (i := 1) (oi := ⟨_, _, _, _, _, _⟩) (v := ?_) rfl (by kernel_rfl) (by kernel_rfl) (by kernel_rfl) (fun _ _ _ h => h) (Or.inl ⟨by rfl, ?_⟩) hHeld ?_
            rotate_left
            · (intro w hSw; (try dsimp only at hSw); go_simp; try (with_reducible rfl))
            try simp only [Act.put, List.setIfInBounds_toArray, List.set_cons_zero, List.set_cons_succ]
            refine wpAnyH_take (i := 2) (oi := ⟨_, _, _, _, _, _⟩) (v := ?_) rfl (by kernel_rfl) (by kernel_rfl) (by kernel_rfl) (fun _ _ _ h => h) (Or.inl ⟨by rfl, ?_⟩) hHeld ?_
            rotate_left
            · (intro w hSw; (try dsimp only at hSw); obtain ⟨y0, y1, y2, y3, y4⟩ := (Hc21.out.below hSw).c5; go_simp; try (with_reducible rfl))
            try simp only [Act.put, List.setIfInBounds_toArray, List.set_cons_zero, List.set_cons_succ]
            refine wpAnyH_take (i := 3) (oi := ⟨_, _, _, _, _, _⟩) (v := ?_) rfl (by kernel_rfl) (by kernel_rfl) (by kernel_rfl) (fun _ _ _ h => h) (Or.inl ⟨by rfl, ?_⟩) hHeld ?_
            rotate_left
            · (intro w hSw; (try dsimp only at hSw); go_simp; try (with_reducible rfl))
            try simp only [Act.put, List.setIfInBounds_toArray, List.set_cons_zero, List.set_cons_succ]
            refine wpAnyH_take (i := 4) (oi := ⟨_, _, _, _, _, _⟩) (v := ?_) rfl (by kernel_rfl) (by kernel_rfl) (by kernel_rfl) (fun _ _ _ h => h) (Or.inl ⟨by rfl, ?_⟩) hHeld ?_
            rotate_left
            · (intro w hSw; (try dsimp only at hSw); go_simp; try (with_reducible rfl))
            try simp only [Act.put, List.setIfInBounds_toArray, List.set_cons_zero, List.set_cons_succ]
            refine wpAnyH_take (i := 5) (oi := ⟨_, _, _, _, _, _⟩) (v := ?_) rfl (by kernel_rfl) (by kernel_rfl) (by kernel_rfl) (fun _ _ _ h => h) (Or.inl ⟨by rfl, ?_⟩) hHeld ?_
            rotate_left
            · (intro w hSw; (try dsimp only at hSw); go_simp; try (with_reducible rfl))
            try simp only [Act.put, List.setIfInBounds_toArray, List.set_cons_zero, List.set_cons_succ]
            refine wpAnyH_take (i := 6) (oi := ⟨_, _, _, _, _, _⟩) (v := ?_) rfl (by kernel_rfl) (by kernel_rfl) (by kernel_rfl) (fun _ _ _ h => h) (Or.inl ⟨by rfl, ?_⟩) hHeld ?_
            rotate_left
            · (intro w hSw; (try dsimp only at hSw); go_simp; try (with_reducible rfl))
            try simp only [Act.put, List.setIfInBounds_toArray, List.set_cons_zero, List.set_cons_succ]
            refine wpAnyH_take (i := 7) (oi := ⟨_, _, _, _, _, _⟩) (v := ?_) rfl (by kernel_rfl) (by kernel_rfl) (by kernel_rfl) (fun _ _ _ h => h) (Or.inl ⟨by rfl, ?_⟩) hHeld ?_
            rotate_left
            · (intro w hSw; (try dsimp only at hSw); go_simp; try (with_reducible rfl))
            try simp only [Act.put, List.setIfInBounds_toArray, List.set_cons_zero, List.set_cons_succ]
            refine wpAnyH_ready (rs := [8]) (by kernel_rfl) (by simp) ?_
            refine AllReadyH.cons (o := ⟨_, _, _, _, _, _⟩) rfl (fun K hK => ?_) AllReadyH.nil
            go_simp
            refine (at_any _ _ _ bys _ _ Hnb.out H32.out rby Hnb2.out (by omega) (by omega)).mono ?_
            rintro e V120 ⟨m120, rfl, hm120, hb⟩
            go_wp2_with fail
            have hHeldN := hHeld.trans (hb.mono hHeld.size)
            have rby := rby.bel hb
            have tq := tq.bel hb
            have x17 := x17.bel hb
            have op := op.bel hb
            have x21 := x21.bel hb
            have hbc := hbc.trans (hb.mono hbc.size)
            refine hK.out _ _ ?_ (fun hHeld2 => ?_)
            · exact hHeldN
            clear hK K hHeld hHeldN hb; have hHeld := hHeld2; clear hHeld2
            try simp only [Act.put, List.setIfInBounds_toArray, List.set_cons_zero, List.set_cons_succ]
            refine wpAnyH_ready (rs := [9]) (by kernel_rfl) (by simp) ?_
            refine AllReadyH.cons (o := ⟨_, _, _, _, _, _⟩) rfl (fun K hK => ?_) AllReadyH.nil
            go_simp
            refine (pick_any _ _ _ _ hl.1 hl.2.1 (by omega) hm120).mono ?_
            rintro e V121 ⟨r121, rfl, hr121, hb⟩
            go_wp2_with fail
            have hHeldN := hHeld.trans (hb.mono hHeld.size)
            have rby := rby.bel hb
            have tq := tq.bel hb
            have x17 := x17.bel hb
            have op := op.bel hb
            have x21 := x21.bel hb
            have hbc := hbc.trans (hb.mono hbc.size)
            refine hK.out _ _ ?_ (fun hHeld2 => ?_)
            · exact hHeldN
            clear hK K hHeld hHeldN hb; have hHeld := hHeld2; clear hHeld2
            try simp only [Act.put, List.setIfInBounds_toArray, List.set_cons_zero, List.set_cons_succ]
            refine wpAnyH_take (i := 10) (oi := ⟨_, _, _, _, _, _⟩) (v := ?_) rfl (by kernel_rfl) (by kernel_rfl) (by kernel_rfl) (fun _ _ _ h => h) (Or.inl ⟨by rfl, ?_⟩) hHeld ?_
            rotate_left
            · (intro w hSw; (try dsimp only at hSw); go_simp; try (with_reducible rfl))
            try simp only [Act.put, List.setIfInBounds_toArray, List.set_cons_zero, List.set_cons_succ]
            refine wpAnyH_take (i := 11) (oi := ⟨_, _, _, _, _, _⟩) (v := ?_) rfl (by kernel_rfl) (by kernel_rfl) (by kernel_rfl) (fun _ _ _ h => h) (Or.inl ⟨by rfl, ?_⟩) hHeld ?_
            rotate_left
            · (intro w hSw; (try dsimp only at hSw); go_simp; try (with_reducible rfl))
            try simp only [Act.put, List.setIfInBounds_toArray, List.set_cons_zero, List.set_cons_succ]
            refine wpAnyH_done (by kernel_rfl) ?_ _
            clear hbc hHeld
            obtain ⟨fv, hfv⟩ : ∃ fv, fv = min x r121 := ⟨_, rfl⟩
            rw [ite_min, ← hfv]
            have Hfv := hide hfv
            have fx : IntKind.i64.wrap (x - fv) = x - fv := by have h := hr121; unfold inS at h; dsimp only at h; exact wrapI (by omega)
            have Hc21 := hide x21
            clear hfv
            go_wp2_with fail
            refine wp_region_held_drew (S := (fun W => Below V121.heap.size V121 W)) (by kernel_rfl) (by (try dsimp only); exact (Below.refl _ _).drew) (fun hHeld => ?_)
            generalize World.drew V121 = Wd23 at hHeld ⊢
            have rby := rby.bel hHeld
            have tq := tq.bel hHeld
            have x17 := x17.bel hHeld
            have op := op.bel hHeld
            have hbc := Below.refl Wd23.heap.size Wd23
            refine wpAnyH_take (i := 0) (oi := ⟨_, _, _, _, _, _⟩) (v := ?_) rfl (by kernel_rfl) (by kernel_rfl) (by kernel_rfl) (fun _ _ _ h => h) (Or.inl ⟨by rfl, ?_⟩) hHeld ?_
            rotate_left
            · (intro w hSw; (try dsimp only at hSw); go_simp; try (with_reducible rfl))
            try simp only [Act.put, List.setIfInBounds_toArray, List.set_cons_zero, List.set_cons_succ]
            refine wpAnyH_take (i := 1) (oi := ⟨_, _, _, _, _, _⟩) (v := ?_) rfl (by kernel_rfl) (by kernel_rfl) (by kernel_rfl) (fun _ _ _ h => h) (Or.inl ⟨by rfl, ?_⟩) hHeld ?_
            rotate_left
            · (intro w hSw; (try dsimp only at hSw); go_simp; try (with_reducible rfl))
            try simp only [Act.put, List.setIfInBounds_toArray, List.set_cons_zero, List.set_cons_succ]
            refine wpAnyH_take (i := 2) (oi := ⟨_, _, _, _, _, _⟩) (v := ?_) rfl (by kernel_rfl) (by kernel_rfl) (by kernel_rfl) (fun _ _ _ h => h) (Or.inl ⟨by rfl, ?_⟩) hHeld ?_
            rotate_left
            · (intro w hSw; (try dsimp only at hSw); go_simp; try (with_reducible rfl))
            try simp only [Act.put, List.setIfInBounds_toArray, List.set_cons_zero, List.set_cons_succ]
            refine wpAnyH_take (i := 3) (oi := ⟨_, _, _, _, _, _⟩) (v := ?_) rfl (by kernel_rfl) (by kernel_rfl) (by kernel_rfl) (fun _ _ _ h => h) (Or.inl ⟨by rfl, ?_⟩) hHeld ?_
            rotate_left
            · (intro w hSw; (try dsimp only at hSw); go_simp; try (with_reducible rfl))
            try simp only [Act.put, List.setIfInBounds_toArray, List.set_cons_zero, List.set_cons_succ]
            refine wpAnyH_take (i := 4) (oi := ⟨_, _, _, _, _, _⟩) (v := ?_) rfl (by kernel_rfl) (by kernel_rfl) (by kernel_rfl) (fun _ _ _ h => h) (Or.inl ⟨by rfl, ?_⟩) hHeld ?_
            rotate_left
            · (intro w hSw; (try dsimp only at hSw); obtain ⟨y0, y1, y2, y3, y4⟩ := (Hc21.out.below hSw).c5; go_simp; try (with_reducible rfl))
            try simp only [Act.put, List.setIfInBounds_toArray, List.set_cons_zero, List.set_cons_succ]
            refine wpAnyH_take (i := 5) (oi := ⟨_, _, _, _, _, _⟩) (v := ?_) rfl (by kernel_rfl) (by kernel_rfl) (by kernel_rfl) (fun _ _ _ h => h) (Or.inl ⟨by rfl, ?_⟩) hHeld ?_
            rotate_left
            · (intro w hSw; (try dsimp only at hSw); go_simp; try (with_reducible rfl))
            try simp only [Act.put, List.setIfInBounds_toArray, List.set_cons_zero, List.set_cons_succ]
            refine wpAnyH_take (i := 6) (oi := ⟨_, _, _, _, _, _⟩) (v := ?_) rfl (by kernel_rfl) (by kernel_rfl) (by kernel_rfl) (fun _ _ _ h => h) (Or.inl ⟨by rfl, ?_⟩) hHeld ?_
            rotate_left
            · (intro w hSw; (try dsimp only at hSw); go_simp; try (with_reducible rfl))
            try simp only [Act.put, List.setIfInBounds_toArray, List.set_cons_zero, List.set_cons_succ]
            refine wpAnyH_take (i := 7) (oi := ⟨_, _, _, _, _, _⟩) (v := ?_) rfl (by kernel_rfl) (by kernel_rfl) (by kernel_rfl) (fun _ _ _ h => h) (Or.inl ⟨by rfl, ?_⟩) hHeld ?_
            rotate_left
            · (intro w hSw; (try dsimp only at hSw); go_simp; try (with_reducible rfl))
            try simp only [Act.put, List.setIfInBounds_toArray, List.set_cons_zero, List.set_cons_succ]
            refine wpAnyH_take (i := 8) (oi := ⟨_, _, _, _, _, _⟩) (v := ?_) rfl (by kernel_rfl) (by kernel_rfl) (by kernel_rfl) (fun _ _ _ h => h) (Or.inl ⟨by rfl, ?_⟩) hHeld ?_
            rotate_left
            · (intro w hSw; (try dsimp only at hSw); go_simp; try (with_reducible rfl))
            try simp only [Act.put, List.setIfInBounds_toArray, List.set_cons_zero, List.set_cons_succ]
            refine wpAnyH_take (i := 9) (oi := ⟨_, _, _, _, _, _⟩) (v := ?_) rfl (by kernel_rfl) (by kernel_rfl) (by kernel_rfl) (fun _ _ _ h => h) (Or.inl ⟨by rfl, ?_⟩) hHeld ?_
            rotate_left
            · (intro w hSw; (try dsimp only at hSw); go_simp; try (with_reducible rfl))
            try simp only [Act.put, List.setIfInBounds_toArray, List.set_cons_zero, List.set_cons_succ]
            refine wpAnyH_take (i := 10) (oi := ⟨_, _, _, _, _, _⟩) (v := ?_) rfl (by kernel_rfl) (by kernel_rfl) (by kernel_rfl) (fun _ _ _ h => h) (Or.inl ⟨by rfl, ?_⟩) hHeld ?_
            rotate_left
            · (intro w hSw; (try dsimp only at hSw); go_simp; try (with_reducible rfl))
            try simp only [Act.put, List.setIfInBounds_toArray, List.set_cons_zero, List.set_cons_succ]
            refine wpAnyH_ready (rs := [11]) (by kernel_rfl) (by simp) ?_
            refine AllReadyH.cons (o := ⟨_, _, _, _, _, _⟩) rfl (fun K hK => ?_) AllReadyH.nil
            go_simp
            refine (at_any _ _ _ bys _ _ Hnb.out H32.out rby Hnb2.out (by omega) (by omega)).mono ?_
            rintro e V134 ⟨m134, rfl, hm134, hb⟩
            go_wp2_with fail
            have hHeldN := hHeld.trans (hb.mono hHeld.size)
            have rby := rby.bel hb
            have tq := tq.bel hb
            have x17 := x17.bel hb
            have op := op.bel hb
            have hbc := hbc.trans (hb.mono hbc.size)
            refine hK.out _ _ ?_ (fun hHeld2 => ?_)
            · exact hHeldN
            clear hK K hHeld hHeldN hb; have hHeld := hHeld2; clear hHeld2
            try simp only [Act.put, List.setIfInBounds_toArray, List.set_cons_zero, List.set_cons_succ]
            refine wpAnyH_ready (rs := [12]) (by kernel_rfl) (by simp) ?_
            refine AllReadyH.cons (o := ⟨_, _, _, _, _, _⟩) rfl (fun K hK => ?_) AllReadyH.nil
            go_simp
            refine (pick_any _ _ _ _ hs.1 hs.2.1 (by omega) hm134).mono ?_
            rintro e V135 ⟨r135, rfl, hr135, hb⟩
            have he := hr135
            unfold inS at he
            dsimp only at he
            have hnx := next_raw (x := x) (f := r121) (e := r135) ⟨hx1, by omega⟩ (by have h := hr121; unfold inS at h; dsimp only at h; exact ⟨by omega, by omega⟩) (by omega) (by omega)
            rw [← Hfv.out] at hnx
            obtain ⟨hy0, hy1, hy2, hy3⟩ := hnx
            have f136 : IntKind.i64.wrap (1000 - r135) = 1000 - r135 := wrapI (by omega)
            have f137 : IntKind.i64.wrap ((x - fv) * (1000 - r135)) = (x - fv) * (1000 - r135) := wrapI (by omega)
            have f138 : IntKind.i64.wrap (Int.tdiv ((x - fv) * (1000 - r135)) 1000) = downF x r121 (1000 - r135) := by rw [Int.tdiv_eq_ediv_of_nonneg hy1, hy3]; have := (Hstep.out r121 r135 hr135 (by simp only [Hdr.out, if_true]; exact hr121)).2.2; exact wrapI (by omega)
            go_wp2_with fail
            have hHeldN := hHeld.trans (hb.mono hHeld.size)
            have rby := rby.bel hb
            have tq := tq.bel hb
            have x17 := x17.bel hb
            have op := op.bel hb
            have hbc := hbc.trans (hb.mono hbc.size)
            refine hK.out _ _ ?_ (fun hHeld2 => ?_)
            · exact hHeldN
            clear hK K hHeld hHeldN hb; have hHeld := hHeld2; clear hHeld2
            try simp only [Act.put, List.setIfInBounds_toArray, List.set_cons_zero, List.set_cons_succ]
            refine wpAnyH_take (i := 13) (oi := ⟨_, _, _, _, _, _⟩) (v := ?_) rfl (by kernel_rfl) (by kernel_rfl) (by kernel_rfl) (fun _ _ _ h => h) (Or.inl ⟨by rfl, ?_⟩) hHeld ?_
            rotate_left
            · (intro w hSw; (try dsimp only at hSw); go_simp; try (with_reducible rfl))
            try simp only [Act.put, List.setIfInBounds_toArray, List.set_cons_zero, List.set_cons_succ]
            refine wpAnyH_take (i := 14) (oi := ⟨_, _, _, _, _, _⟩) (v := ?_) rfl (by kernel_rfl) (by kernel_rfl) (by kernel_rfl) (fun _ _ _ h => h) (Or.inl ⟨by rfl, ?_⟩) hHeld ?_
            rotate_left
            · (intro w hSw; (try dsimp only at hSw); go_simp; try (with_reducible rfl))
            try simp only [Act.put, List.setIfInBounds_toArray, List.set_cons_zero, List.set_cons_succ]
            refine wpAnyH_take (i := 15) (oi := ⟨_, _, _, _, _, _⟩) (v := ?_) rfl (by kernel_rfl) (by kernel_rfl) (by kernel_rfl) (fun _ _ _ h => h) (Or.inl ⟨by rfl, ?_⟩) hHeld ?_
            rotate_left
            · (intro w hSw; (try dsimp only at hSw); go_simp; try (with_reducible rfl))
            try simp only [Act.put, List.setIfInBounds_toArray, List.set_cons_zero, List.set_cons_succ]
            refine wpAnyH_take (i := 16) (oi := ⟨_, _, _, _, _, _⟩) (v := ?_) rfl (by kernel_rfl) (by kernel_rfl) (by kernel_rfl) (fun _ _ _ h => h) (Or.inl ⟨by rfl, ?_⟩) hHeld ?_
            rotate_left
            · (intro w hSw; (try dsimp only at hSw); go_simp; try (with_reducible rfl))
            try simp only [Act.put, List.setIfInBounds_toArray, List.set_cons_zero, List.set_cons_succ]
            refine wpAnyH_done (by kernel_rfl) ?_ _
            clear hbc hHeld
            obtain ⟨h1, h2, h3, h4⟩ := Hstep.out r121 r135 hr135 (by simp only [Hdr.out, if_true]; exact hr121)
            obtain ⟨y, hy⟩ : ∃ y, y = downF x r121 (1000 - r135) := ⟨_, rfl⟩
            rw [← hy] at h1 h2 h3 h4 ⊢
            obtain ⟨t1, k0, k1⟩ := tq.set2 (i := cn) (by omega) (atI M cn + (x - y))
            have hmb := (HM.out).2 cn
            have hmb2 : 0 ≤ atI M cn ∧ atI M cn ≤ 100000000000000000 := Hmbd.out cn
            have fxy : IntKind.i64.wrap (x - y) = x - y := wrapI (by omega)
            have fst : IntKind.i64.wrap (atI M cn + (x - y)) = atI M cn + (x - y) := wrapI (by omega)
            have op' := op.setCell (p := ⟨b68, cn, none⟩) (fun e => by have := own_bl op b68 e; omega) (.int .i64 (atI M cn + (x - y)))
            have x17' := x17.other (r := b68) cn (.int .i64 (atI M cn + (x - y))) (by omega)
            have Ht1 := hide t1; have Hop' := hide op'; have Hx17' := hide x17'; have H1 := hide h1; have H2 := hide h2
            have HS2 : Hid (sumI (M.set cn (atI M cn + (x - y))) + y = sumI L + x0) := hide (by rw [sumI_set M cn _ (by rw [tq.ll]; omega)]; have := HS.out; omega)
            clear hy t1 op' x17' h1 h2 hmb op x17 tq rby x21 Hc21
            go_wp2_with fail
            exact ⟨⟨q + 1, _, y, by omega, by go_num, rfl, Ht1, Hop', Hx17', H1, H2, HS2, h3, by omega⟩, by simp [intOf]; omega⟩
        · obtain rfl : q = n := by omega
          rw [List.take_of_length_le (by have := Hnp.out; omega), Hpe.out] at HM Hx
          have hfn : f.toNat < nf := by have := Hf.out; omega
          obtain ⟨fn, hfe⟩ : ∃ fn : Nat, f = fn := ⟨f.toNat, by omega⟩
          subst hfe
          rw [Int.toNat_natCast] at hfn
          obtain ⟨y0, y1, y2⟩ := hx17.out.c3
          have hgb := (Hbd.out k (by have := Hu.out; omega)).1.at (by omega) fn
          have hgi := HG.out.2 fn
          have hgb2 : 0 ≤ atI G fn ∧ atI G fn ≤ 100000000000000000 := by unfold inS at hgi; omega
          obtain ⟨t1, k0, k1⟩ := htq.out.set1 (i := fn) (by omega) (atI G fn + x)
          have fst : IntKind.i64.wrap (atI G fn + x) = atI G fn + x := wrapI (by omega)
          have hfl : fn < G.length := by rw [htq.out.gl]; exact hfn
          have hG2 : ptIn (G.set fn (atI G fn + x)) (watersK cs fs dry (days * 1440) a b us (k + 1)).1 := by
            rw [watersK_succ, useW_at Hxk.out]
            have h := HG.out.put (i := fn) hfl Hx.out
            rw [HL0.out] at h
            exact h
          have hL2 : ptIn M (watersK cs fs dry (days * 1440) a b us (k + 1)).2 := by
            rw [watersK_succ, useW_at Hxk.out]
            have h := HM.out
            rw [HL0.out] at h
            exact h
          have hS2 : T + x0 = sumI (G.set fn (atI G fn + x)) + sumI M := by
            rw [sumI_set G fn x hfl]
            have h1 := HS.out
            have h2 := HT.out
            omega
          have Ht1 := hide t1; have HG2 := hide hG2; have HL2 := hide hL2; have HS2 := hide hS2
          have i2 : (fn : Int) < (nf : Int) := by omega
          have i3 : (0 : Int) ≤ (fn : Int) := by omega
          clear t1 hG2 hL2 hS2 hgb hgi hfl htq hop hx17
          go_wp2_with fail
          exact ⟨⟨k + 1, _, _, T + x0, by omega, by go_num, rfl, Ht1, HG2, HL2, HS2, by omega, by omega⟩, by simp [intOf]; omega⟩
    · obtain rfl : k = nu := by omega
      have hks : k = us.length := Hu.out
      rw [hks] at HG HL
      clear hks
      obtain ⟨ws, hwe⟩ : ∃ ws, ws = watersK cs fs dry (days * 1440) a b us us.length := ⟨_, rfl⟩
      have hbd := Hbd.out _ (Nat.le_refl us.length)
      rw [← hwe] at HG HL hbd
      rw [← hwe] at Hrl Hrq
      have hul : (us.length : Int) ≤ 60 := by have := Hu.out; omega
      have hgv : ∀ i, 0 ≤ atI G i ∧ atI G i ≤ 1000000000000000 := fun i => by
        have h1 := hbd.1.at (by omega) i
        have h2 := HG.out.2 i
        unfold inS at h2
        omega
      have hlv : ∀ i, 0 ≤ atI L i ∧ atI L i ≤ 1000000000000000 := fun i => by
        have h1 := hbd.2.1.at (by omega) i
        have h2 := HL.out.2 i
        unfold inS at h2
        omega
      have Hgv := hide hgv; have Hlv := hide hlv; have Htq := hide htq.out
      have hwl : ws.1.length = nf ∧ ws.2.length = nc := ⟨hbd.2.2.1.trans Hf.out.symm, hbd.2.2.2.trans Hc.out.symm⟩
      have Hwl := hide hwl
      clear hgv hlv hbd hwe hul hwl htq
      go_wp2_with fail
      go_loopw [15, 161] (fun s i wr => ∃ (j : Nat) (x : Int), j ≤ nf ∧ i = .int .i64 j ∧ s = .int .i64 x ∧ Hid (x = T - sumI (G.take j)) ∧ -(j : Int) * 1000000000000000 ≤ x ∧ x ≤ 1000000000000000 ∧ Hid (TQ w3 b65 b68 nf nc G L wr)) (fun _ i _ => nf - (intOf i).toNat)
      case atStart => exact ⟨0, T, by omega, rfl, rfl, hide (by simp [sumI]), by omega, by omega, Htq⟩
      case round =>
        clear Htq
        obtain ⟨j, x, hj, rfl, rfl, hxe, hx1, hx2, Htq⟩ := hrel
        by_cases hjl : j < nf
        · obtain ⟨b1, o1, y, z, rfl, lb1, hx, a0, a1⟩ := (Hrl.out.bel Htq.out.bl).sp (i := j) (by rw [Hwl.out.1]; exact hjl)
          have c0 := Htq.out.at1 hjl
          have hin := HG.out.2 j
          rw [atS_lo _ _ _ hx] at hin
          unfold inS at hin
          dsimp only at hin
          have hgj := Hgv.out j
          obtain ⟨g, hg⟩ : ∃ g, g = atI G j := ⟨_, rfl⟩
          have hgx : G[j]? = some g := by rw [hg]; unfold atI; rw [List.getElem?_eq_getElem (by rw [Htq.out.gl]; exact hjl)]; rfl
          rw [← hg] at c0 hin hgj
          have d0 : decide (g < y) = false := decide_eq_false (by omega)
          have d1 : decide (z < g) = false := decide_eq_false (by omega)
          have i0 : (0 : Int) ≤ (j : Int) := by omega
          have i1 : (j : Int) < (nf : Int) := by omega
          have Hxe := hide (show x - g = T - sumI (G.take (j + 1)) by rw [sumI_take hgx]; have := hxe.out; omega)
          have fw : IntKind.i64.wrap (x - g) = x - g := wrapI (by omega)
          clear hx hin hg hgx hxe
          go_wp2_with fail
          exact ⟨⟨j + 1, x - g, by omega, by go_num, rfl, Hxe, by omega, by omega, Htq⟩, by simp [intOf]; omega⟩
        · obtain rfl : nf = j := by omega
          have hs : x = sumI L := by
            have h1 := hxe.out
            rw [List.take_of_length_le (by rw [Htq.out.gl]; exact Nat.le_refl _)] at h1
            have h2 := HT.out
            omega
          have Hs := hide hs
          clear hs hxe
          go_wp2_with fail
          go_loopw [15, 188] (fun s i wr => ∃ (j : Nat) (x : Int), j ≤ nc ∧ i = .int .i64 j ∧ s = .int .i64 x ∧ Hid (x = sumI L - sumI (L.take j)) ∧ -(j : Int) * 1000000000000000 - 20000000000000000 ≤ x ∧ x ≤ 1000000000000000 ∧ Hid (TQ w3 b65 b68 nf nc G L wr)) (fun _ i _ => nc - (intOf i).toNat)
          case atStart => exact ⟨0, x, by omega, rfl, rfl, hide (by simp [sumI]; exact Hs.out), by omega, by omega, Htq⟩
          case round =>
            clear Htq
            obtain ⟨j, x, hj, rfl, rfl, hxe, hx1, hx2, Htq⟩ := hrel
            by_cases hjl : j < nc
            · obtain ⟨b1, o1, y, z, rfl, lb1, hx, a0, a1⟩ := (Hrq.out.bel Htq.out.bl).sp (i := j) (by rw [Hwl.out.2]; exact hjl)
              have c0 := Htq.out.at2 hjl
              have hin := HL.out.2 j
              rw [atS_lo _ _ _ hx] at hin
              unfold inS at hin
              dsimp only at hin
              have hgj := Hlv.out j
              obtain ⟨g, hg⟩ : ∃ g, g = atI L j := ⟨_, rfl⟩
              have hgx : L[j]? = some g := by rw [hg]; unfold atI; rw [List.getElem?_eq_getElem (by rw [Htq.out.ll]; exact hjl)]; rfl
              rw [← hg] at c0 hin hgj
              have d0 : decide (g < y) = false := decide_eq_false (by omega)
              have d1 : decide (z < g) = false := decide_eq_false (by omega)
              have i0 : (0 : Int) ≤ (j : Int) := by omega
              have i1 : (j : Int) < (nc : Int) := by omega
              have Hxe := hide (show x - g = sumI L - sumI (L.take (j + 1)) by rw [sumI_take hgx]; have := hxe.out; omega)
              have fw : IntKind.i64.wrap (x - g) = x - g := wrapI (by omega)
              clear hx hin hg hgx hxe
              go_wp2_with fail
              exact ⟨⟨j + 1, x - g, by omega, by go_num, rfl, Hxe, by omega, by omega, Htq⟩, by simp [intOf]; omega⟩
            · obtain rfl : nc = j := by omega
              obtain rfl : x = 0 := by
                have h1 := hxe.out
                rw [List.take_of_length_le (by rw [Htq.out.ll]; exact Nat.le_refl _)] at h1
                omega
              have hbx := hB.trans (Htq.out.bl.mono hB.size)
              clear hxe
              go_wp2_with fail
              go_ret
              exact ⟨rfl, hbx⟩
set_option maxRecDepth 100000 in
theorem channelTrue_lifted (os : Os) (started : os.Started) (H : Type) (enc : TypeId × Value → H) :
    ReturnsInHanded {} Try.checked os 7 .any (Rows.channelTrueSpec.pre6 enc Try.prog Try.f7 Rows.channelTrueRow.domain false) (Rows.channelTrueSpec.post enc Try.prog Try.f7 false true false false) := by
  refine law_lifted os started H enc (s := Rows.channelTrueSpec) Try.func7 (by kernel_rfl) ?_ rfl Try.underlying4 rfl (of_decide_eq_true (by kernel_rfl))
    (ChangeSpec.witness6 (enc := enc) (C := Try.checked) false ⟨#[], #[.agg #[.slice none 0 0, .slice none 0 0, .int .i64 0, .int .i64 0], .agg #[.int .i64 0, .int .i64 0], .slice none 0 0, .slice none 0 0], []⟩ 8 (by kernel_rfl) (by kernel_rfl) (by kernel_rfl) (by kernel_rfl)) ?_
  · intro ds hds
    match ds, hds with
    | [a, b, c, d], _ => rfl
  · intro W base args ds ps hval hA hlt
    rw [Try.params7] at hA hval
    obtain ⟨v0, v1, v2, v3, d0, d1, d2, d3, p0, p1, p2, p3, rfl, rfl, rfl, h0, h1, h2, h3⟩ := trodAll_four hA
    obtain ⟨Ac, nc, cc, Af, nf, cf, dry, days, cs, fs, rfl, hnc, hnf, _, _, hcs, hfs, _, _, _, _⟩ := open_net (hval 0 _ v0 rfl rfl) h0
    obtain ⟨⟨a, b⟩, e1, _⟩ := open_val shape_sp Try.underlying51 (hval 1 _ v1 rfl rfl) h1
    rw [show (v1 : Value) = .agg #[.int .i64 a, .int .i64 b] from e1]
    obtain ⟨Au, nu, cu, us, rfl, hnu, _, hus, _⟩ := open_sl shape_us Try.underlying26 cells_us Us.len (by omega) (hval 2 _ v2 rfl rfl) h2
    obtain ⟨Ab, nb, cb, bys, rfl, hnb, hnb2, hby, h32⟩ := open_sl shape_u32 Try.underlying76 cells_u32 u32cell_len (by omega) (hval 3 _ v3 rfl rfl) h3
    exact true_walk Ac Af Au Ab nc cc nf cf nu cu nb cb dry days a b cs fs us bys W hnc hnf hnu hnb hnb2 hcs hfs hus hby h32

theorem channelTrue_holds : Rows.ChannelTrueSaid :=
  OpenClaim.holds_of_wide 7 Try.f7 rfl rfl rfl rfl rfl rfl rfl ⟨rfl, rfl, rfl, rfl, rfl⟩ rfl rfl rfl rfl rfl (by kernel_rfl) Try.func7 (by kernel_rfl)
    (of_decide_eq_true (by kernel_rfl)) (by unfold Func.isWrapper; rw [if_neg (of_decide_eq_false (by kernel_rfl))]; exact ⟨rfl, rfl⟩)
    (fun os started H enc _ => channelTrue_lifted os started H enc)
#print axioms channelTrue_holds
end Go.Proofs.Ytgklcilpohkpkaa
