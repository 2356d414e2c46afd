/- ChannelMore: with more flow, a longer turn, less seepage, and canals that stay wet longer, no field gets less for sure; and what is known better is told no wider: the law returns true for every net, flow, uses, and numbers that say how much. No conditions. -/
import Derived.Test.YthlnbgjlkliopaaK1
import Derived.Test.YthlnbgjlkliopaaMq
import Derived.Test.YthlnbgjlkliopaaRegG
import Derived.Test.YthlnbgjlkliopaaA3
import Derived.Test.YthlnbgjlkliopaaA4
import Derived.Carry
set_option linter.unusedVariables false
set_option linter.unusedSimpArgs false
namespace Go.Proofs.Ythlnbgjlkliopaa
open Go.RowKit Go.Shelf Go.WideShapes Go.ChangeShapes Go.ChangeAt Go.Deep
attribute [local go_sem ↓] Go.wp_at_zero Go.wp_at_succ
theorem ready_parts {cs : List Ca} {fs : List Int} {dry days a b : Int} {us : List Us} (h : readyB cs fs dry days a b us = true) : cs.length ≤ 24 ∧ fs.length ≤ 18 ∧ us.length ≤ 80 ∧ netOk cs fs dry days = true ∧ usesOk fs.length days us = true ∧ Sp.ok 0 13000000 ⟨a, b⟩ = true := by
  simp only [readyB, great, Bool.and_eq_true, Bool.not_eq_true', Bool.or_eq_false_iff, decide_eq_false_iff_not] at h
  obtain ⟨⟨⟨h1, h2⟩, h3⟩, h4, h5, h6⟩ := h
  exact ⟨by omega, by omega, by omega, h4, h5, h6⟩
/-- What a call or a box brings: a twin of the net, with rows of its own in its own stretch of blocks; a box. -/
def MoreR (B nc nf : Nat) (cs : List Ca) (fs : List Int) (dry days : Int) (i : Nat) (v : Value) (b : Nat × Nat) (W : World) : Prop :=
  if i < 6 then ∃ Bc dc Bf df, v = .agg #[.slice Bc nc dc, .slice Bf nf df, .int .i64 dry, .int .i64 days] ∧ Own W b.1 38 5 Ca.cells (.slice Bc nc dc) cs ∧ Own W b.1 3 1 icell (.slice Bf nf df) fs ∧
    (∀ g, (Value.slice Bc nc dc).ownBlock = some g → g < b.2) ∧ (∀ g, (Value.slice Bf nf df).ownBlock = some g → g < b.2) ∧ (∀ g, (Value.slice Bc nc dc).ownBlock = some g → ¬ (Value.slice Bf nf df).ownBlock = some g) ∧ B ≤ b.1
  else v = .pointer (some ⟨b.1, 0, none⟩) ∧ b.1 < b.2 ∧ B ≤ b.1 ∧ At W b.1 [.slice none 0 0, .slice none 0 0, .int .i64 0, .int .i64 0] ∧ ∀ j : Nat, W.frozen? ⟨b.1, j, none⟩ = false
theorem MoreR.below {B nc nf : Nat} {cs : List Ca} {fs : List Int} {dry days : Int} {i : Nat} {v : Value} {b : Nat × Nat} {W W' : World} (h : MoreR B nc nf cs fs dry days i v b W) (hb : Below W.heap.size W W') : MoreR B nc nf cs fs dry days i v b W' := by
  unfold MoreR at h ⊢
  split at h
  · rename_i hi
    rw [if_pos hi]
    obtain ⟨Bc, dc, Bf, df, h1, h2, h3, h4⟩ := h
    exact ⟨Bc, dc, Bf, df, h1, h2.below hb, h3.below hb, h4⟩
  · rename_i hi
    rw [if_neg hi]
    obtain ⟨h1, h2, h3, h4, h5⟩ := h
    exact ⟨h1, h2, h3, h4.below hb, frz_below h5 h4.1 hb⟩
set_option maxHeartbeats 40000000 in
set_option maxRecDepth 100000 in
theorem more_walk (Ac Af Au Ab : Option Addr) (nc cc nf cf nu cu nb cb : Nat) (dry days a b : Int) (cs : List Ca) (fs : List Int) (us : List Us) (bys : List Nat) (w : World) (hnc : nc = cs.length) (hnf : nf = fs.length) (hnu : nu = us.length) (hnb : nb = bys.length) (hnb2 : nb ≤ 9223372036854775807)
    (hcs : Rd w w.heap.size Ca.cells Ac cs) (hfs : Rd w w.heap.size icell Af fs) (hus : Rd w w.heap.size Us.cells Au us) (hby : Rd w w.heap.size u32cell Ab bys) (h32 : ∀ x ∈ bys, x ≤ 4294967295) :
    Calls Try.prog 3 #[.agg #[.slice Ac nc cc, .slice Af nf cf, .int .i64 dry, .int .i64 days], .agg #[.int .i64 a, .int .i64 b], .slice Au nu cu, .slice Ab nb cb] w fun e w' => e = .returned (.bool true) ∧ Below w.heap.size w w' := by
  obtain ⟨W, HW⟩ : ∃ W, Hid ((w.alloc (.cells #[.slice Ac nc cc, .slice Af nf cf, .int .i64 dry, .int .i64 days] 25)).alloc (.cells #[.int .i64 a, .int .i64 b] 27) = W) := ⟨_, hide rfl⟩
  have xn : At W w.heap.size [.slice Ac nc cc, .slice Af nf cf, .int .i64 dry, .int .i64 days] := by rw [← HW.out]; exact (At.new w #[.slice Ac nc cc, .slice Af nf cf, .int .i64 dry, .int .i64 days] _ _ rfl _ rfl).alloc _
  have xf : At W (w.heap.size + 1) [.int .i64 a, .int .i64 b] := by rw [← HW.out]; exact At.new _ #[.int .i64 a, .int .i64 b] _ _ (by simp) _ rfl
  have hB : Below w.heap.size w W := by rw [← HW.out]; exact (below_new w _).alloc (by simp) _
  have rc := hcs.bel hB
  have rf := hfs.bel hB
  have ru := hus.bel hB
  have rby := hby.bel hB
  clear hcs hfs hus hby
  have Hc := hide hnc; have Hf := hide hnf; have Hu := hide hnu; have Hnb := hide hnb; have Hnb2 := hide hnb2; have H32 := hide h32
  clear hnc hnf hnu hnb hnb2 h32
  go_enter Try.func3, Try.ntmps3
  go_wp2_with fail
  rw [HW.out]
  clear HW
  refine (alive_any _).mono ?_
  rintro e w1 ⟨rfl, hb⟩
  replace xn := xn.bel hb
  replace xf := xf.bel hb
  replace rc := rc.bel hb
  replace rf := rf.bel hb
  replace ru := ru.bel hb
  replace rby := rby.bel hb
  replace hB := hB.trans (hb.mono hB.size)
  clear hb
  obtain ⟨q0, q1, q2, q3⟩ := xn.c4
  obtain ⟨p0, p1⟩ := xf.c2
  go_wp2_with fail
  refine (ready_any _ _ _ _ _ _ _ _ _ _ _ _ _ cs fs us _ Hc.out Hf.out rc rf ru Hu.out).mono ?_
  rintro e w2 ⟨rfl, hb⟩
  clear q0 q1 q2 q3 p0 p1
  replace xn := xn.bel hb
  replace xf := xf.bel hb
  replace rc := rc.bel hb
  replace rf := rf.bel hb
  replace ru := ru.bel hb
  replace rby := rby.bel hb
  replace hB := hB.trans (hb.mono hB.size)
  clear hb
  obtain ⟨q0, q1, q2, q3⟩ := xn.c4
  obtain ⟨p0, p1⟩ := xf.c2
  cases hr : readyB cs fs dry days a b us
  · clear hr
    go_wp2_with fail
    go_ret
    exact ⟨rfl, hB⟩
  obtain ⟨hcl, hfl, hul, hok, huo, hsp⟩ := ready_parts hr
  have hd := (netOk_parts hok).2.2.2.1
  have n1 : NetAt w2 Ac Af nc nf cs fs := ⟨rc, rf, Hc.out, Hf.out, by have := Hc.out; omega, by have := Hf.out; omega⟩
  have hnc16 : nc ≤ 16 := by have := Hc.out; have := (netOk_parts hok).1; omega
  have hnf12 : nf ≤ 12 := by have := Hf.out; have := (netOk_parts hok).2.1; omega
  have hnu60 : nu ≤ 60 := by have := Hu.out; have := usesOk_len huo; omega
  have hws : watersS cs fs dry days a b us = (watersK cs fs dry (days * 1440) a b us us.length, 0) := by
    unfold watersS
    rw [if_pos hok, if_pos hsp, if_pos huo]
  have habx := hsp
  simp only [Sp.ok, Bool.and_eq_true, decide_eq_true_eq] at habx
  obtain ⟨⟨ha0, hab⟩, hb13⟩ := habx
  have Hbd := hide (watersK_bd (dry := dry) (us := us) hok huo hsp)
  have Hok := hide hok; have Huo := hide huo; have Hsp := hide hsp; have Hws := hide hws
  clear hr hok huo hsp hws rc rf hcl hfl hul
  go_wp2_with fail
  refine (waters_fn _ _ _ _ _ _ _ _ _ _ _ _ _ _ _ us _ n1 ru Hu.out (by omega)).mono ?_
  rintro e w3 ⟨v1, v2, rfl, o1, o2, hb⟩
  simp only [Hws.out] at o1 o2 ⊢
  obtain ⟨Al, cl, rfl, rl⟩ := o1.rdn nf ((Hbd.out _ (Nat.le_refl _)).2.2.1.trans Hf.out.symm)
  obtain ⟨Aq, cq, rfl, rq⟩ := o2.rdn nc ((Hbd.out _ (Nat.le_refl _)).2.2.2.trans Hc.out.symm)
  clear o1 o2 q0 q1 q2 q3 p0 p1
  replace xn := xn.bel hb
  replace xf := xf.bel hb
  replace ru := ru.bel hb
  replace rby := rby.bel hb
  replace n1 := n1.bel hb
  replace hB := hB.trans (hb.mono hB.size)
  clear hb
  obtain ⟨q0, q1, q2, q3⟩ := xn.c4
  go_wp2_with fail
  clear q0 q1 q2 q3
  refine wp_region_held_drew (S := fun W => Below w3.heap.size w3 W) (by kernel_rfl) (by (try dsimp only); exact (Below.refl _ _).drew) (fun hHeld => ?_)
  generalize World.drew w3 = Wd9 at hHeld ⊢
  have Hx := hide xn
  refine wpAnyH_take (i := 0) (oi := ⟨_, _, _, _, _, _⟩) (v := ?_) rfl (by kernel_rfl) (by kernel_rfl) (by kernel_rfl) (fun _ _ _ h => h) (Or.inl ⟨by rfl, ?_⟩) hHeld ?_
  rotate_left
  · (intro w hSw; (try dsimp only at hSw); obtain ⟨q0, q1, q2, q3⟩ := (Hx.out.below hSw).c4; go_simp; try (with_reducible rfl))
  try simp only [Act.put, List.setIfInBounds_toArray, List.set_cons_zero, List.set_cons_succ]
  refine wpAnyH_take (i := 2) (oi := ⟨_, _, _, _, _, _⟩) (v := ?_) rfl (by kernel_rfl) (by kernel_rfl) (by kernel_rfl) (fun _ _ _ h => h) (Or.inl ⟨by rfl, ?_⟩) hHeld ?_
  rotate_left
  · (intro w hSw; (try dsimp only at hSw); obtain ⟨q0, q1, q2, q3⟩ := (Hx.out.below hSw).c4; go_simp; try (with_reducible rfl))
  try simp only [Act.put, List.setIfInBounds_toArray, List.set_cons_zero, List.set_cons_succ]
  refine wpAnyH_take (i := 4) (oi := ⟨_, _, _, _, _, _⟩) (v := ?_) rfl (by kernel_rfl) (by kernel_rfl) (by kernel_rfl) (fun _ _ _ h => h) (Or.inl ⟨by rfl, ?_⟩) hHeld ?_
  rotate_left
  · (intro w hSw; (try dsimp only at hSw); obtain ⟨q0, q1, q2, q3⟩ := (Hx.out.below hSw).c4; go_simp; try (with_reducible rfl))
  try simp only [Act.put, List.setIfInBounds_toArray, List.set_cons_zero, List.set_cons_succ]
  refine name_frame fun a0 ha0 => ?_
  refine wpAnyH_bring0 (R := MoreR w3.heap.size nc nf cs fs dry days) (G := [1, 3, 5, 6, 7, 8]) (T := [(1, 77), (3, 79), (5, 81), (6, 13), (7, 14), (8, 15)]) (fuel := 3) (by kernel_rfl) (by kernel_rfl) (by rw [ha0]; rfl) hHeld ?_ ?_ ?_
  · exact fun i v b w w' h hb => h.below hb
  · intro i hi o ho u W K hS hK
    have hnW : NetAt W Ac Af nc nf cs fs := n1.bel hS
    simp only [List.mem_cons, List.not_mem_nil, or_false] at hi
    rcases hi with rfl | rfl | rfl | rfl | rfl | rfl
    all_goals obtain rfl := Option.some.inj ho
    all_goals rw [ha0]
    all_goals simp only [frOf, List.foldl_cons, List.foldl_nil, Act.put, List.setIfInBounds_toArray, List.set_cons_zero, List.set_cons_succ]
    all_goals go_simp
    · refine (twin_own Ac Af nc cc nf cf dry days cs fs _ hnW).mono ?_
      rintro e V ⟨Bc, dc, Bf, df, rfl, nV, oc, of, hne, hb⟩
      have h := hK.out (.agg #[.slice Bc nc dc, .slice Bf nf df, .int .i64 dry, .int .i64 days]) V (by
        unfold MoreR
        rw [if_pos (by decide)]
        exact ⟨Bc, dc, Bf, df, rfl, oc, of, fun g hg => (own_block oc hg).2, fun g hg => (own_block of hg).2, hne, hS.size⟩) hb (hS.trans (hb.mono hS.size))
      rw [ha0] at h
      simp only [frOf, List.foldl_cons, List.foldl_nil, Act.put, List.setIfInBounds_toArray, List.set_cons_zero, List.set_cons_succ] at h
      exact h
    · refine (twin_own Ac Af nc cc nf cf dry days cs fs _ hnW).mono ?_
      rintro e V ⟨Bc, dc, Bf, df, rfl, nV, oc, of, hne, hb⟩
      have h := hK.out (.agg #[.slice Bc nc dc, .slice Bf nf df, .int .i64 dry, .int .i64 days]) V (by
        unfold MoreR
        rw [if_pos (by decide)]
        exact ⟨Bc, dc, Bf, df, rfl, oc, of, fun g hg => (own_block oc hg).2, fun g hg => (own_block of hg).2, hne, hS.size⟩) hb (hS.trans (hb.mono hS.size))
      rw [ha0] at h
      simp only [frOf, List.foldl_cons, List.foldl_nil, Act.put, List.setIfInBounds_toArray, List.set_cons_zero, List.set_cons_succ] at h
      exact h
    · refine (twin_own Ac Af nc cc nf cf dry days cs fs _ hnW).mono ?_
      rintro e V ⟨Bc, dc, Bf, df, rfl, nV, oc, of, hne, hb⟩
      have h := hK.out (.agg #[.slice Bc nc dc, .slice Bf nf df, .int .i64 dry, .int .i64 days]) V (by
        unfold MoreR
        rw [if_pos (by decide)]
        exact ⟨Bc, dc, Bf, df, rfl, oc, of, fun g hg => (own_block oc hg).2, fun g hg => (own_block of hg).2, hne, hS.size⟩) hb (hS.trans (hb.mono hS.size))
      rw [ha0] at h
      simp only [frOf, List.foldl_cons, List.foldl_nil, Act.put, List.setIfInBounds_toArray, List.set_cons_zero, List.set_cons_succ] at h
      exact h
    · have h := hK.out (.pointer (some ⟨W.heap.size, 0, none⟩)) (W.alloc (.cells #[.slice none 0 0, .slice none 0 0, .int .i64 0, .int .i64 0] 25)) (by
        unfold MoreR
        rw [if_neg (by decide)]
        exact ⟨rfl, by simp, hS.size, At.new W #[.slice none 0 0, .slice none 0 0, .int .i64 0, .int .i64 0] _ _ rfl _ rfl, fun j => At.frozen_new W #[.slice none 0 0, .slice none 0 0, .int .i64 0, .int .i64 0] _ _ rfl j⟩) (below_new _ _) (hS.trans ((below_new _ _).mono hS.size))
      rw [ha0] at h
      simp only [frOf, List.foldl_cons, List.foldl_nil, Act.put, List.setIfInBounds_toArray, List.set_cons_zero, List.set_cons_succ] at h
      exact h
    · have h := hK.out (.pointer (some ⟨W.heap.size, 0, none⟩)) (W.alloc (.cells #[.slice none 0 0, .slice none 0 0, .int .i64 0, .int .i64 0] 25)) (by
        unfold MoreR
        rw [if_neg (by decide)]
        exact ⟨rfl, by simp, hS.size, At.new W #[.slice none 0 0, .slice none 0 0, .int .i64 0, .int .i64 0] _ _ rfl _ rfl, fun j => At.frozen_new W #[.slice none 0 0, .slice none 0 0, .int .i64 0, .int .i64 0] _ _ rfl j⟩) (below_new _ _) (hS.trans ((below_new _ _).mono hS.size))
      rw [ha0] at h
      simp only [frOf, List.foldl_cons, List.foldl_nil, Act.put, List.setIfInBounds_toArray, List.set_cons_zero, List.set_cons_succ] at h
      exact h
    · have h := hK.out (.pointer (some ⟨W.heap.size, 0, none⟩)) (W.alloc (.cells #[.slice none 0 0, .slice none 0 0, .int .i64 0, .int .i64 0] 25)) (by
        unfold MoreR
        rw [if_neg (by decide)]
        exact ⟨rfl, by simp, hS.size, At.new W #[.slice none 0 0, .slice none 0 0, .int .i64 0, .int .i64 0] _ _ rfl _ rfl, fun j => At.frozen_new W #[.slice none 0 0, .slice none 0 0, .int .i64 0, .int .i64 0] _ _ rfl j⟩) (below_new _ _) (hS.trans ((below_new _ _).mono hS.size))
      rw [ha0] at h
      simp only [frOf, List.foldl_cons, List.foldl_nil, Act.put, List.setIfInBounds_toArray, List.set_cons_zero, List.set_cons_succ] at h
      exact h
  intro u bb W9 hB9
  rw [ha0]
  simp only [frOf, List.foldl_cons, List.foldl_nil, Act.put, List.setIfInBounds_toArray, List.set_cons_zero, List.set_cons_succ]
  clear ha0 a0 hHeld
  have r1 := hB9.r 1 (by simp) (by simp)
  have r3 := hB9.r 3 (by simp) (by simp)
  have r5 := hB9.r 5 (by simp) (by simp)
  have r6 := hB9.r 6 (by simp) (by simp)
  have r7 := hB9.r 7 (by simp) (by simp)
  have r8 := hB9.r 8 (by simp) (by simp)
  have hne : ∀ i ∈ [1, 3, 5, 6, 7, 8], ∀ j ∈ [1, 3, 5, 6, 7, 8], i ≠ j → (bb i).2 ≤ (bb j).1 ∨ (bb j).2 ≤ (bb i).1 := fun i hi j hj h => hB9.ne i hi j hj (by simp) (by simp) h
  have hS9 := hB9.s
  unfold MoreR at r1 r3 r5 r6 r7 r8
  rw [if_pos (by decide)] at r1 r3 r5
  rw [if_neg (by decide)] at r6 r7 r8
  obtain ⟨Bd, dd, Bfd, dfd, hu1, od, fd, gd1, gd2, gd3, gd4⟩ := r1
  obtain ⟨Bw, dw, Bfw, dfw, hu3, ow, fw, gw1, gw2, gw3, gw4⟩ := r3
  obtain ⟨Bk, dk, Bfk, dfk, hu5, ok, fk, gk1, gk2, gk3, gk4⟩ := r5
  obtain ⟨hu6, l6, m6, a13, f13⟩ := r6
  obtain ⟨hu7, l7, m7, a14, f14⟩ := r7
  obtain ⟨hu8, l8, m8, a15, f15⟩ := r8
  rw [hu1, hu3, hu5, hu6, hu7, hu8]
  obtain ⟨b13, hb13⟩ : ∃ x, x = (bb 6).1 := ⟨_, rfl⟩
  obtain ⟨b14, hb14⟩ : ∃ x, x = (bb 7).1 := ⟨_, rfl⟩
  obtain ⟨b15, hb15⟩ : ∃ x, x = (bb 8).1 := ⟨_, rfl⟩
  have iv_vd : ∀ g, (Value.slice Bd nc dd).ownBlock = some g → (bb 1).1 ≤ g ∧ g < (bb 1).2 := fun g hg => ⟨(own_block od hg).1, gd1 g hg⟩
  have iv_xd : ∀ g, (Value.slice Bfd nf dfd).ownBlock = some g → (bb 1).1 ≤ g ∧ g < (bb 1).2 := fun g hg => ⟨(own_block fd hg).1, gd2 g hg⟩
  have iv_vw : ∀ g, (Value.slice Bw nc dw).ownBlock = some g → (bb 3).1 ≤ g ∧ g < (bb 3).2 := fun g hg => ⟨(own_block ow hg).1, gw1 g hg⟩
  have iv_xw : ∀ g, (Value.slice Bfw nf dfw).ownBlock = some g → (bb 3).1 ≤ g ∧ g < (bb 3).2 := fun g hg => ⟨(own_block fw hg).1, gw2 g hg⟩
  have iv_vk : ∀ g, (Value.slice Bk nc dk).ownBlock = some g → (bb 5).1 ≤ g ∧ g < (bb 5).2 := fun g hg => ⟨(own_block ok hg).1, gk1 g hg⟩
  have iv_xk : ∀ g, (Value.slice Bfk nf dfk).ownBlock = some g → (bb 5).1 ≤ g ∧ g < (bb 5).2 := fun g hg => ⟨(own_block fk hg).1, gk2 g hg⟩
  have d13 := hne 1 (by simp) 3 (by simp) (by decide)
  have d15 := hne 1 (by simp) 5 (by simp) (by decide)
  have d16 := hne 1 (by simp) 6 (by simp) (by decide)
  have d17 := hne 1 (by simp) 7 (by simp) (by decide)
  have d18 := hne 1 (by simp) 8 (by simp) (by decide)
  have d35 := hne 3 (by simp) 5 (by simp) (by decide)
  have d36 := hne 3 (by simp) 6 (by simp) (by decide)
  have d37 := hne 3 (by simp) 7 (by simp) (by decide)
  have d38 := hne 3 (by simp) 8 (by simp) (by decide)
  have d56 := hne 5 (by simp) 6 (by simp) (by decide)
  have d57 := hne 5 (by simp) 7 (by simp) (by decide)
  have d58 := hne 5 (by simp) 8 (by simp) (by decide)
  have d67 := hne 6 (by simp) 7 (by simp) (by decide)
  have d68 := hne 6 (by simp) 8 (by simp) (by decide)
  have d78 := hne 7 (by simp) 8 (by simp) (by decide)
  have off_b13 : Off b13 w3 [b14, b15] [Value.slice Bd nc dd, Value.slice Bw nc dw, Value.slice Bk nc dk, Value.slice Bfd nf dfd, Value.slice Bfw nf dfw, Value.slice Bfk nf dfk] := by
    refine ⟨by omega, ?_, ?_⟩
    · intro b hb; simp only [List.mem_cons, List.not_mem_nil, or_false] at hb; rcases hb with rfl | rfl <;> omega
    · intro v hv; simp only [List.mem_cons, List.not_mem_nil, or_false] at hv; rcases hv with rfl | rfl | rfl | rfl | rfl | rfl
      · intro e; have h1 := iv_vd _ e; have h2 := d16; omega
      · intro e; have h1 := iv_vw _ e; have h2 := d36; omega
      · intro e; have h1 := iv_vk _ e; have h2 := d56; omega
      · intro e; have h1 := iv_xd _ e; have h2 := d16; omega
      · intro e; have h1 := iv_xw _ e; have h2 := d36; omega
      · intro e; have h1 := iv_xk _ e; have h2 := d56; omega
  have off_b14 : Off b14 w3 [b13, b15] [Value.slice Bd nc dd, Value.slice Bw nc dw, Value.slice Bk nc dk, Value.slice Bfd nf dfd, Value.slice Bfw nf dfw, Value.slice Bfk nf dfk] := by
    refine ⟨by omega, ?_, ?_⟩
    · intro b hb; simp only [List.mem_cons, List.not_mem_nil, or_false] at hb; rcases hb with rfl | rfl <;> omega
    · intro v hv; simp only [List.mem_cons, List.not_mem_nil, or_false] at hv; rcases hv with rfl | rfl | rfl | rfl | rfl | rfl
      · intro e; have h1 := iv_vd _ e; have h2 := d17; omega
      · intro e; have h1 := iv_vw _ e; have h2 := d37; omega
      · intro e; have h1 := iv_vk _ e; have h2 := d57; omega
      · intro e; have h1 := iv_xd _ e; have h2 := d17; omega
      · intro e; have h1 := iv_xw _ e; have h2 := d37; omega
      · intro e; have h1 := iv_xk _ e; have h2 := d57; omega
  have off_b15 : Off b15 w3 [b13, b14] [Value.slice Bd nc dd, Value.slice Bw nc dw, Value.slice Bk nc dk, Value.slice Bfd nf dfd, Value.slice Bfw nf dfw, Value.slice Bfk nf dfk] := by
    refine ⟨by omega, ?_, ?_⟩
    · intro b hb; simp only [List.mem_cons, List.not_mem_nil, or_false] at hb; rcases hb with rfl | rfl <;> omega
    · intro v hv; simp only [List.mem_cons, List.not_mem_nil, or_false] at hv; rcases hv with rfl | rfl | rfl | rfl | rfl | rfl
      · intro e; have h1 := iv_vd _ e; have h2 := d18; omega
      · intro e; have h1 := iv_vw _ e; have h2 := d38; omega
      · intro e; have h1 := iv_vk _ e; have h2 := d58; omega
      · intro e; have h1 := iv_xd _ e; have h2 := d18; omega
      · intro e; have h1 := iv_xw _ e; have h2 := d38; omega
      · intro e; have h1 := iv_xk _ e; have h2 := d58; omega
  have off_vd : ∀ g, (Value.slice Bd nc dd).ownBlock = some g → Off g w3 [b13, b14, b15] [Value.slice Bw nc dw, Value.slice Bk nc dk, Value.slice Bfd nf dfd, Value.slice Bfw nf dfw, Value.slice Bfk nf dfk] := fun g hg => by
    have hi := iv_vd g hg
    refine ⟨by omega, ?_, ?_⟩
    · intro b hb; simp only [List.mem_cons, List.not_mem_nil, or_false] at hb; rcases hb with rfl | rfl | rfl <;> omega
    · intro v hv; simp only [List.mem_cons, List.not_mem_nil, or_false] at hv; rcases hv with rfl | rfl | rfl | rfl | rfl
      · intro e; have h1 := iv_vw _ e; have h2 := d13; omega
      · intro e; have h1 := iv_vk _ e; have h2 := d15; omega
      · exact gd3 g hg
      · intro e; have h1 := iv_xw _ e; have h2 := d13; omega
      · intro e; have h1 := iv_xk _ e; have h2 := d15; omega
  have off_vk : ∀ g, (Value.slice Bk nc dk).ownBlock = some g → Off g w3 [b13, b14, b15] [Value.slice Bd nc dd, Value.slice Bw nc dw, Value.slice Bfd nf dfd, Value.slice Bfw nf dfw, Value.slice Bfk nf dfk] := fun g hg => by
    have hi := iv_vk g hg
    refine ⟨by omega, ?_, ?_⟩
    · intro b hb; simp only [List.mem_cons, List.not_mem_nil, or_false] at hb; rcases hb with rfl | rfl | rfl <;> omega
    · intro v hv; simp only [List.mem_cons, List.not_mem_nil, or_false] at hv; rcases hv with rfl | rfl | rfl | rfl | rfl
      · intro e; have h1 := iv_vd _ e; have h2 := d15; omega
      · intro e; have h1 := iv_vw _ e; have h2 := d35; omega
      · intro e; have h1 := iv_xd _ e; have h2 := d15; omega
      · intro e; have h1 := iv_xw _ e; have h2 := d35; omega
      · exact gk3 g hg
  have Hod := hide off_vd; have Hok2 := hide off_vk; have Ho13 := hide off_b13; have Ho14 := hide off_b14; have Ho15 := hide off_b15
  have hmq : MQ w3 b13 b14 b15 (Value.slice Bd nc dd) (Value.slice Bw nc dw) (Value.slice Bk nc dk) (Value.slice Bfd nf dfd) (Value.slice Bfw nf dfw) (Value.slice Bfk nf dfk) [.slice none 0 0, .slice none 0 0, .int .i64 0, .int .i64 0] [.slice none 0 0, .slice none 0 0, .int .i64 0, .int .i64 0] [.slice none 0 0, .slice none 0 0, .int .i64 0, .int .i64 0] fs cs cs cs W9 := by
    subst hb13 hb14 hb15
    exact ⟨hS9, od.mono gd4, ow.mono gw4, ok.mono gk4, fd.mono gd4, fw.mono gw4, fk.mono gk4, a13, a14, a15, f13, f14, f15⟩
  rw [← hb13, ← hb14, ← hb15]
  clear iv_vd iv_xd iv_vw iv_xw iv_vk iv_xk d13 d15 d16 d17 d18 d35 d36 d37 d38 d56 d57 d58 d67 d68 d78 off_b13 off_b14 off_b15 off_vd off_vk
  clear hb13 hb14 hb15 hu1 hu3 hu5 hu6 hu7 hu8 od ow ok fd fw fk a13 a14 a15 f13 f14 f15 gd1 gd2 gd3 gd4 gw1 gw2 gw3 gw4 gk1 gk2 gk3 gk4 l6 l7 l8 m6 m7 m8 hne hS9 hB9 bb
  obtain ⟨z0, z1, z2, z3⟩ := hmq.a13.c4
  have y0 := hmq.f13 0
  have y1 := hmq.f13 1
  have y2 := hmq.f13 2
  have y3 := hmq.f13 3
  obtain ⟨W10, HW10, a13, f13, hk13⟩ := box4 hmq.a13 hmq.f13 (Value.slice Bd nc dd) (Value.slice Bfd nf dfd) (.int .i64 dry) (.int .i64 days)
  refine wpAnyH_ready (rs := [9]) (by kernel_rfl) (by simp) ?_
  refine AllReadyH.cons (o := ⟨_, _, _, _, _, _⟩) rfl (fun K hK => ?_) AllReadyH.nil
  have Hq := hide hmq
  clear hmq
  go_simp
  rw [HW10.out]
  replace hmq := Hq.out.turn13 hk13 Ho13.out a13 f13
  refine hK.out _ _ hmq.bl (fun _ => ?_)
  clear z0 z1 z2 z3 y0 y1 y2 y3 hK K Hq hk13 a13 f13 HW10
  try simp only [Act.put, List.setIfInBounds_toArray, List.set_cons_zero, List.set_cons_succ]
  obtain ⟨z0, z1, z2, z3⟩ := hmq.a14.c4
  have y0 := hmq.f14 0
  have y1 := hmq.f14 1
  have y2 := hmq.f14 2
  have y3 := hmq.f14 3
  obtain ⟨W11, HW11, a14, f14, hk14⟩ := box4 hmq.a14 hmq.f14 (Value.slice Bw nc dw) (Value.slice Bfw nf dfw) (.int .i64 dry) (.int .i64 days)
  refine wpAnyH_ready (rs := [10]) (by kernel_rfl) (by simp) ?_
  refine AllReadyH.cons (o := ⟨_, _, _, _, _, _⟩) rfl (fun K hK => ?_) AllReadyH.nil
  have Hq := hide hmq
  clear hmq
  go_simp
  rw [HW11.out]
  replace hmq := Hq.out.turn14 hk14 Ho14.out a14 f14
  refine hK.out _ _ hmq.bl (fun _ => ?_)
  clear z0 z1 z2 z3 y0 y1 y2 y3 hK K Hq hk14 a14 f14 HW11
  try simp only [Act.put, List.setIfInBounds_toArray, List.set_cons_zero, List.set_cons_succ]
  obtain ⟨z0, z1, z2, z3⟩ := hmq.a15.c4
  have y0 := hmq.f15 0
  have y1 := hmq.f15 1
  have y2 := hmq.f15 2
  have y3 := hmq.f15 3
  obtain ⟨W12, HW12, a15, f15, hk15⟩ := box4 hmq.a15 hmq.f15 (Value.slice Bk nc dk) (Value.slice Bfk nf dfk) (.int .i64 dry) (.int .i64 days)
  refine wpAnyH_ready (rs := [11]) (by kernel_rfl) (by simp) ?_
  refine AllReadyH.cons (o := ⟨_, _, _, _, _, _⟩) rfl (fun K hK => ?_) AllReadyH.nil
  have Hq := hide hmq
  clear hmq
  go_simp
  rw [HW12.out]
  replace hmq := Hq.out.turn15 hk15 Ho15.out a15 f15
  refine hK.out _ _ hmq.bl (fun _ => ?_)
  clear z0 z1 z2 z3 y0 y1 y2 y3 hK K Hq hk15 a15 f15 HW12
  try simp only [Act.put, List.setIfInBounds_toArray, List.set_cons_zero, List.set_cons_succ]
  refine wpAnyH_done (by kernel_rfl) ?_ _
  obtain ⟨q0, q1, q2, q3⟩ := (xn.bel hmq.bl).c4
  have Hmq := hide hmq
  have Hxn := hide xn; have Hxf := hide xf; have Hru := hide ru; have Hrby := hide rby; have Hn1 := hide n1; have Hrl := hide rl; have Hrq := hide rq
  clear hmq xn xf ru rby n1 rl rq Hx
  go_wp2_with fail
  clear q0 q1 q2 q3
  go_loopw [85] (fun i wr => ∃ (k : Nat) (D K : List Ca), k ≤ nc ∧ i = .int .i64 k ∧ Hid (MQ w3 b13 b14 b15 (Value.slice Bd nc dd) (Value.slice Bw nc dw) (Value.slice Bk nc dk) (Value.slice Bfd nf dfd) (Value.slice Bfw nf dfw) (Value.slice Bfk nf dfk) [.slice Bd nc dd, .slice Bfd nf dfd, .int .i64 dry, .int .i64 days] [.slice Bw nc dw, .slice Bfw nf dfw, .int .i64 dry, .int .i64 days] [.slice Bk nc dk, .slice Bfk nf dfk, .int .i64 dry, .int .i64 days] fs cs D K wr) ∧ Hid (caRel denseOf cs D) ∧ Hid (caRel knownOf cs K)) (fun i _ => nc - (intOf i).toNat)
  case atStart => exact ⟨0, _, _, by omega, rfl, Hmq, hide (denseOf.refl Hok.out), hide (knownOf.refl Hok.out)⟩
  case round => as_aux_lemma =>
    clear Hmq
    obtain ⟨k, D, K, hk, rfl, hmq0, HD, HK⟩ := hrel
    obtain ⟨wo, rfl⟩ : ∃ wo, wo = wr := ⟨wr, rfl⟩
    have hmq := hmq0.out
    have bl := hmq.bl
    by_cases hlt : k < nc
    · obtain ⟨gd, rfl⟩ := own_at hmq.od (by omega)
      obtain ⟨gk, rfl⟩ := own_at hmq.ok (by omega)
      have hDl : nc = D.length := by have := HD.out.1; have := Hc.out; omega
      have hKl : nc = K.length := by have := HK.out.1; have := Hc.out; omega
      obtain ⟨⟨f1, ⟨s0, s1⟩, l1⟩, hDk⟩ : ∃ x, D[k]? = some x := ⟨_, List.getElem?_eq_getElem (by omega)⟩
      obtain ⟨⟨f2, ⟨u0, u1⟩, ⟨v0, v1⟩⟩, hKk⟩ : ∃ x, K[k]? = some x := ⟨_, List.getElem?_eq_getElem (by omega)⟩
      obtain ⟨ca, hca, hda⟩ := HD.out.got hDk
      have hka := HK.out.2 _ _ _ hca hKk
      obtain ⟨_, hcs, hcl⟩ := caOk_parts (ca_ok Hok.out hca)
      unfold denseOf at hda
      unfold knownOf at hka
      dsimp only at hda hka
      obtain ⟨e1, e2⟩ := own_seep_c hmq.od hDk
      dsimp only at e1 e2
      obtain ⟨z0, z1, z2, z3⟩ := hmq.a13.c4
      have HDk := hide hDk; have HKk := hide hKk; have Hca := hide hca
      have i0 : (0 : Int) ≤ (k : Int) := by omega
      have i1 : (k : Int) < (nc : Int) := by omega
      have hk1000 : (k : Int) ≤ 16 := by omega
      obtain ⟨b17, w7, eb17, ew17, x17, _, hb1⟩ := mk_box wo #[.int .i64 s0, .int .i64 s1] 27
      have rby := (Hrby.out.bel bl).bel hb1
      have hlt17 : b17 ≠ gd ∧ b17 ≠ gk := by have h1 := own_bl hmq.od gd rfl; have h2 := own_bl hmq.ok gk rfl; have h3 := eb17.out; omega
      have Hl17 := hide hlt17
      have HDl := hide hDl; have HKl := hide hKl
      clear hDk hKk hca bl hlt17 hDl hKl
      go_wp2_with fail
      rw [ew17.out, eb17.out]
      clear ew17 eb17 e1 e2 z0 z1 z2 z3 hmq0
      replace hmq := hmq.bel hb1
      have Hx := hide x17
      clear hb1
      have fs0 : IntKind.i64.wrap (s0 + 1) = s0 + 1 := wrapI (by omega)
      refine wp_region_held_drew (S := (fun W => Below w7.heap.size w7 W)) (by kernel_rfl) (by (try dsimp only); exact (Below.refl _ _).drew) (fun hHeld => ?_)
      generalize World.drew w7 = Wd14 at hHeld ⊢
      have rby := rby.bel hHeld
      have hmq := hmq.bel hHeld
      have x17 := x17.bel hHeld
      have hbc := Below.refl Wd14.heap.size Wd14
      iterate 3
        refine tkHl [0, 1, 4] ?_ rfl rfl (Or.inl ⟨by rfl, ?_⟩) hHeld ?_
        rotate_left
        · (intro w _; go_simp; try (with_reducible rfl))
        try simp only [Act.put, tl1, tl2, tl3]
      refine tkH 5 ?_ rfl (Or.inl ⟨by rfl, ?_⟩) hHeld ?_
      rotate_left
      · (intro w hSw; (try dsimp only at hSw); obtain ⟨p0, p1⟩ := (Hx.out.below hSw).c2; go_simp; try (with_reducible rfl))
      try simp only [Act.put, tl1, tl2, tl3]
      refine tkH 6 ?_ rfl (Or.inl ⟨by rfl, ?_⟩) hHeld ?_
      rotate_left
      · (intro w _; go_simp; try (with_reducible rfl))
      try simp only [Act.put, tl1, tl2, tl3]
      refine wpAnyH_ready (rs := [2]) (by kernel_rfl) (by simp) ?_
      refine AllReadyH.cons (o := ⟨_, _, _, _, _, _⟩) rfl (fun K hK => ?_) AllReadyH.nil
      go_simp
      refine (at_any _ _ _ bys _ _ Hnb.out H32.out rby Hnb2.out (by omega) (by omega)).mono ?_
      rintro e V96 ⟨m96, rfl, hm96, hb⟩
      have nz96 : ¬ s0 + 1 = 0 := by omega
      have fmm96 : IntKind.i64.wrap (m96 : Int) = m96 := wrapI (by omega)
      obtain ⟨ls, hls⟩ : ∃ ls, ls = (m96 : Int) % (s0 + 1) := ⟨_, rfl⟩
      have tls : Int.tmod (m96 : Int) (s0 + 1) = ls := by rw [Int.tmod_eq_emod_of_nonneg (by omega), hls]
      have bls : 0 ≤ ls ∧ ls < s0 + 1 := by rw [hls]; exact ⟨Int.emod_nonneg _ (by omega), Int.emod_lt_of_pos _ (by omega)⟩
      clear hls
      go_wp2_with fail
      have hHeldN := hHeld.trans (hb.mono hHeld.size)
      have rby := rby.bel hb
      have hmq := hmq.bel hb
      have x17 := x17.bel hb
      have hbc := hbc.trans (hb.mono hbc.size)
      refine hK.out _ _ ?_ (fun hHeld2 => ?_)
      · exact hHeldN
      clear hK K hHeld hHeldN hb; have hHeld := hHeld2; clear hHeld2
      try simp only [Act.put, tl1, tl2, tl3]
      iterate 3
        refine tkHl [3, 7, 8] ?_ rfl rfl (Or.inl ⟨by rfl, ?_⟩) hHeld ?_
        rotate_left
        · (intro w _; go_simp; try (with_reducible rfl))
        try simp only [Act.put, tl1, tl2, tl3]
      refine wpAnyH_done (by kernel_rfl) ?_ _
      clear hbc hHeld Hx
      have Hx := hide x17
      have Hn := hide hmq.a13
      have hn13 : b13 ≠ gd := (Hod.out gd rfl).bs _ (by simp)
      have g0 : IntKind.i64.wrap (s0 - ls) = s0 - ls := wrapI (by omega)
      have g1 : IntKind.i64.wrap (s1 - ls) = s1 - ls := wrapI (by omega)
      clear fs0 fmm96 nz96 x17 hm96 tls
      go_wp2_with fail
      refine wp_region_held_drew (S := (fun W => Kept (fun b => b ≠ gd) V96 W)) (by kernel_rfl) (by (try dsimp only); exact Kept.all _ (Below.refl _ _).drew) (fun hHeld => ?_)
      have hdr : Below V96.heap.size V96 (World.drew V96) := (Below.refl _ _).drew
      generalize World.drew V96 = Wd15 at hHeld hdr ⊢
      have rby := rby.bel hdr
      have hmq := hmq.bel hdr
      have hbc := Below.refl Wd15.heap.size Wd15
      iterate 6
        refine tkHl [0, 2, 3, 5, 7, 9] ?_ rfl rfl (Or.inl ⟨by rfl, ?_⟩) hHeld ?_
        rotate_left
        · (intro w _; go_simp; try (with_reducible rfl))
        try simp only [Act.put, tl1, tl2, tl3]
      iterate 3
        refine tkHl [1, 4, 8] ?_ rfl rfl (Or.inl ⟨by rfl, ?_⟩) hHeld ?_
        rotate_left
        · (intro w hSw; (try dsimp only at hSw); obtain ⟨p0, p1⟩ := (Hx.out.kept hSw Hl17.out.1).c2; obtain ⟨q0, q1, q2, q3⟩ := (Hn.out.kept hSw hn13).c4; go_simp; try (with_reducible rfl))
        try simp only [Act.put, tl1, tl2, tl3]
      iterate 2
        refine tkHl [6, 10] ?_ rfl rfl (Or.inl ⟨by rfl, ?_⟩) hHeld ?_
        rotate_left
        · (intro w _; go_simp; try (with_reducible rfl))
        try simp only [Act.put, tl1, tl2, tl3]
      refine wpAnyH_ready (rs := [11]) (by kernel_rfl) (by simp) ?_
      refine AllReadyH.cons (o := ⟨_, _, _, _, _, _⟩) rfl (fun K hK => ?_) AllReadyH.nil
      go_simp
      refine (span_any _ _ _).mono ?_
      rintro e V113 ⟨rfl, hb⟩
      go_wp2_with fail
      have hHeldN := hHeld.trans (Kept.all _ hb)
      have rby := rby.bel hb
      have hmq := hmq.bel hb
      have hbc := hbc.trans (hb.mono hbc.size)
      refine hK.out _ _ ?_ (fun hHeld2 => ?_)
      · exact hHeldN
      clear hK K hHeld hHeldN hb; have hHeld := hHeld2; clear hHeld2
      try simp only [Act.put, tl1, tl2, tl3]
      iterate 2
        refine tkHl [12, 13] ?_ rfl rfl (Or.inl ⟨by rfl, ?_⟩) hHeld ?_
        rotate_left
        · (intro w _; go_simp; try (with_reducible rfl))
        try simp only [Act.put, tl1, tl2, tl3]
      refine wpAnyH_ready (rs := [14]) (by kernel_rfl) (by simp) ?_
      refine AllReadyH.cons (o := ⟨_, _, _, _, _, _⟩) rfl (fun K hK => ?_) AllReadyH.nil
      have Hmq := hide hmq
      obtain ⟨z1, z2, y1, y2, hput⟩ := own_seep Hmq.out.od HDk.out HDl.out (s0 - ls) (s1 - ls)
      have Hput := hide hput
      clear hput hmq
      go_simp
      refine hK.out _ _ ?_ (fun _ => ?_)
      · (try dsimp only); exact hHeld.trans (Hput.out.2)
      clear hK K hHeld
      try simp only [Act.put, tl1, tl2, tl3]
      refine wpAnyH_done (by kernel_rfl) ?_ _
      clear hbc hdr Hx Hn z1 z2 y1 y2
      have hmq8 := Hmq.out.turnD Hput.out.2 (Hod.out gd rfl) Hput.out.1
      obtain ⟨w8, Hw8⟩ : ∃ w', Hid ((V113.setCell ⟨gd, k * 5 + 1, none⟩ (.int .i64 (s0 - ls))).setCell ⟨gd, k * 5 + 2, none⟩ (.int .i64 (s1 - ls)) = w') := ⟨_, hide rfl⟩
      rw [Hw8.out] at hmq8 ⊢
      clear Hw8 Hput Hmq rby g0 g1
      have hmq := hmq8
      have rby := Hrby.out.bel hmq.bl
      obtain ⟨z0, z1, z2, z3⟩ := hmq.a15.c4
      have Hmq := hide hmq
      have fk1 : IntKind.i64.wrap ((k : Int) + 1) = (k : Int) + 1 := wrapI (by omega)
      have fk2 : IntKind.i64.wrap ((k : Int) + 2) = (k : Int) + 2 := wrapI (by omega)
      clear hmq8 hmq
      go_wp2_with fail
      clear z0 z1 z2 z3
      have hmq := Hmq.out
      clear Hmq
      refine wp_region_held_drew (S := (fun W => Kept (fun b => b ≠ gk) w8 W)) (by kernel_rfl) (by (try dsimp only); exact Kept.all _ (Below.refl _ _).drew) (fun hHeld => ?_)
      have hdr : Below w8.heap.size w8 (World.drew w8) := (Below.refl _ _).drew
      generalize World.drew w8 = Wd17 at hHeld hdr ⊢
      have rby := rby.bel hdr
      have hmq := hmq.bel hdr
      have hbc := Below.refl Wd17.heap.size Wd17
      iterate 7
        refine tkHl [0, 1, 2, 3, 5, 6, 7] ?_ rfl rfl (Or.inl ⟨by rfl, ?_⟩) hHeld ?_
        rotate_left
        · (intro w _; go_simp; try (with_reducible rfl))
        try simp only [Act.put, tl1, tl2, tl3]
      refine cut1 (C := fun (m128 : Nat) (Wc17_1 : World) => (m128 ≤ 4294967295) ∧ Below Wd17.heap.size Wd17 Wc17_1 ∧ Kept (fun b => b ≠ gk) w8 Wc17_1) (G := ?_) ?_ ?_
      rotate_left
      · intro hCut
        replace hbc := Below.refl Wd17.heap.size Wd17
        refine wpAnyH_ready (rs := [4, 8]) (by kernel_rfl) (by simp) ?_
        refine AllReadyH.cons (o := ⟨_, _, _, _, _, _⟩) rfl (fun K hK => ?_) ?_
        ·
          have hz := own_seep_c hmq.ok HKk.out
          obtain ⟨z1, z2⟩ := hz
          go_simp
          clear z1 z2
          have hHeldN := hHeld
          refine hK.out _ _ ?_ (fun hHeld2 => ?_)
          · exact hHeldN
          clear hK K hHeldN; have hHeld := hHeld2; clear hHeld2
          try simp only [Act.put, tl1, tl2, tl3]
          refine wpAnyH_ready (rs := [8]) (by kernel_rfl) (by simp) ?_
          refine AllReadyH.cons (o := ⟨_, _, _, _, _, _⟩) rfl (fun K hK => ?_) AllReadyH.nil
          go_simp
          refine (at_any _ _ _ bys _ _ Hnb.out H32.out rby Hnb2.out (by omega) (by omega)).mono ?_
          rintro e V128 ⟨m128, rfl, hm128, hb⟩
          go_wp2_with fail
          have hHeldN := hHeld.trans (Kept.all _ hb)
          have rby := rby.bel hb
          have hmq := hmq.bel hb
          have hbc := hbc.trans (hb.mono hbc.size)
          refine hK.out _ _ ?_ (fun hHeld2 => ?_)
          · exact hHeldN
          clear hK K hHeldN hb; have hHeld := hHeld2; clear hHeld2
          try simp only [Act.put, tl1, tl2, tl3]
          exact hCut m128 V128 ⟨hm128, hbc, hHeld⟩
        refine AllReadyH.cons (o := ⟨_, _, _, _, _, _⟩) rfl (fun K hK => ?_) AllReadyH.nil
        go_simp
        refine (at_any _ _ _ bys _ _ Hnb.out H32.out rby Hnb2.out (by omega) (by omega)).mono ?_
        rintro e V128 ⟨m128, rfl, hm128, hb⟩
        go_wp2_with fail
        have hHeldN := hHeld.trans (Kept.all _ hb)
        have rby := rby.bel hb
        have hmq := hmq.bel hb
        have hbc := hbc.trans (hb.mono hbc.size)
        refine hK.out _ _ ?_ (fun hHeld2 => ?_)
        · exact hHeldN
        clear hK K hHeldN hb; have hHeld := hHeld2; clear hHeld2
        try simp only [Act.put, tl1, tl2, tl3]
        refine wpAnyH_ready (rs := [4]) (by kernel_rfl) (by simp) ?_
        refine AllReadyH.cons (o := ⟨_, _, _, _, _, _⟩) rfl (fun K hK => ?_) AllReadyH.nil
        have hz := own_seep_c hmq.ok HKk.out
        obtain ⟨z1, z2⟩ := hz
        go_simp
        clear z1 z2
        have hHeldN := hHeld
        refine hK.out _ _ ?_ (fun hHeld2 => ?_)
        · exact hHeldN
        clear hK K hHeldN; have hHeld := hHeld2; clear hHeld2
        try simp only [Act.put, tl1, tl2, tl3]
        exact hCut m128 V128 ⟨hm128, hbc, hHeld⟩
      intro m128 Wc17_1 ⟨hm128, hbN, hHeldN⟩
      have rby := rby.bel hbN
      have hmq := hmq.bel hbN
      have hbc := hbc.trans (hbN.mono hbc.size); clear hHeld hbN; have hHeld := hHeldN; clear hHeldN
      refine wpAnyH_ready (rs := [9]) (by kernel_rfl) (by simp) ?_
      refine AllReadyH.cons (o := ⟨_, _, _, _, _, _⟩) rfl (fun K hK => ?_) AllReadyH.nil
      go_simp
      refine (pick_any _ _ _ _ (by omega) (by omega) (by omega) hm128).mono ?_
      rintro e V129 ⟨r129, rfl, hr129, hb⟩
      go_wp2_with fail
      have hHeldN := hHeld.trans (Kept.all _ hb)
      have rby := rby.bel hb
      have hmq := hmq.bel hb
      have hbc := hbc.trans (hb.mono hbc.size)
      refine hK.out _ _ ?_ (fun hHeld2 => ?_)
      · exact hHeldN
      clear hK K hHeld hHeldN hb; have hHeld := hHeld2; clear hHeld2
      try simp only [Act.put, tl1, tl2, tl3]
      iterate 3
        refine tkHl [10, 11, 12] ?_ rfl rfl (Or.inl ⟨by rfl, ?_⟩) hHeld ?_
        rotate_left
        · (intro w _; go_simp; try (with_reducible rfl))
        try simp only [Act.put, tl1, tl2, tl3]
      refine wpAnyH_ready (rs := [13]) (by kernel_rfl) (by simp) ?_
      refine AllReadyH.cons (o := ⟨_, _, _, _, _, _⟩) rfl (fun K hK => ?_) AllReadyH.nil
      have Hmq := hide hmq
      obtain ⟨z1, z2⟩ := own_seep_c Hmq.out.ok HKk.out
      have y1 := own_frzC Hmq.out.ok (k * 5 + 1)
      clear hmq
      go_simp
      refine hK.out _ _ ?_ (fun _ => ?_)
      · (try dsimp only); exact hHeld.trans (Kept.setCell _ ⟨gk, k * 5 + 1, none⟩ _)
      clear hK K hHeld
      try simp only [Act.put, tl1, tl2, tl3]
      refine wpAnyH_done (by kernel_rfl) ?_ _
      clear hbc hdr z1 z2 y1
      have hK2 := own_seep_lo Hmq.out.ok HKk.out HKl.out r129
      have hmq8 := Hmq.out.turnK (Kept.setCell V129 ⟨gk, k * 5 + 1, none⟩ (.int .i64 r129)) (Hok2.out gk rfl) hK2
      obtain ⟨w10, Hw10⟩ : ∃ w', Hid (V129.setCell ⟨gk, k * 5 + 1, none⟩ (.int .i64 r129) = w') := ⟨_, hide rfl⟩
      rw [Hw10.out] at hmq8 ⊢
      have HKk2 := hide (show (K.set k ⟨f2, ⟨r129, u1⟩, ⟨v0, v1⟩⟩)[k]? = some ⟨f2, ⟨r129, u1⟩, ⟨v0, v1⟩⟩ by rw [List.getElem?_set_self (by have := HKl.out; omega)])
      have Hmq8 := hide hmq8
      have hr1 := hr129
      unfold inC at hr1
      dsimp only at hr1
      clear Hw10 Hmq rby hmq8 hm128 hK2 hr129
      go_wp2_with fail
      have hmq := Hmq8.out
      have rby := Hrby.out.bel hmq.bl
      clear Hmq8
      refine wp_region_held_drew (S := (fun W => Kept (fun b => b ≠ gk) w10 W)) (by kernel_rfl) (by (try dsimp only); exact Kept.all _ (Below.refl _ _).drew) (fun hHeld => ?_)
      have hdr : Below w10.heap.size w10 (World.drew w10) := (Below.refl _ _).drew
      generalize World.drew w10 = Wd18 at hHeld hdr ⊢
      have rby := rby.bel hdr
      have hmq := hmq.bel hdr
      have hbc := Below.refl Wd18.heap.size Wd18
      iterate 7
        refine tkHl [0, 1, 2, 3, 5, 6, 7] ?_ rfl rfl (Or.inl ⟨by rfl, ?_⟩) hHeld ?_
        rotate_left
        · (intro w _; go_simp; try (with_reducible rfl))
        try simp only [Act.put, tl1, tl2, tl3]
      refine cut1 (C := fun (m141 : Nat) (Wc18_1 : World) => (m141 ≤ 4294967295) ∧ Below Wd18.heap.size Wd18 Wc18_1 ∧ Kept (fun b => b ≠ gk) w10 Wc18_1) (G := ?_) ?_ ?_
      rotate_left
      · intro hCut
        replace hbc := Below.refl Wd18.heap.size Wd18
        refine wpAnyH_ready (rs := [4, 8]) (by kernel_rfl) (by simp) ?_
        refine AllReadyH.cons (o := ⟨_, _, _, _, _, _⟩) rfl (fun K hK => ?_) ?_
        ·
          have hz := own_fill_c hmq.ok HKk2.out
          obtain ⟨z1, z2⟩ := hz
          go_simp
          clear z1 z2
          have hHeldN := hHeld
          refine hK.out _ _ ?_ (fun hHeld2 => ?_)
          · exact hHeldN
          clear hK K hHeldN; have hHeld := hHeld2; clear hHeld2
          try simp only [Act.put, tl1, tl2, tl3]
          refine wpAnyH_ready (rs := [8]) (by kernel_rfl) (by simp) ?_
          refine AllReadyH.cons (o := ⟨_, _, _, _, _, _⟩) rfl (fun K hK => ?_) AllReadyH.nil
          go_simp
          refine (at_any _ _ _ bys _ _ Hnb.out H32.out rby Hnb2.out (by omega) (by omega)).mono ?_
          rintro e V141 ⟨m141, rfl, hm141, hb⟩
          go_wp2_with fail
          have hHeldN := hHeld.trans (Kept.all _ hb)
          have rby := rby.bel hb
          have hmq := hmq.bel hb
          have hbc := hbc.trans (hb.mono hbc.size)
          refine hK.out _ _ ?_ (fun hHeld2 => ?_)
          · exact hHeldN
          clear hK K hHeldN hb; have hHeld := hHeld2; clear hHeld2
          try simp only [Act.put, tl1, tl2, tl3]
          exact hCut m141 V141 ⟨hm141, hbc, hHeld⟩
        refine AllReadyH.cons (o := ⟨_, _, _, _, _, _⟩) rfl (fun K hK => ?_) AllReadyH.nil
        go_simp
        refine (at_any _ _ _ bys _ _ Hnb.out H32.out rby Hnb2.out (by omega) (by omega)).mono ?_
        rintro e V141 ⟨m141, rfl, hm141, hb⟩
        go_wp2_with fail
        have hHeldN := hHeld.trans (Kept.all _ hb)
        have rby := rby.bel hb
        have hmq := hmq.bel hb
        have hbc := hbc.trans (hb.mono hbc.size)
        refine hK.out _ _ ?_ (fun hHeld2 => ?_)
        · exact hHeldN
        clear hK K hHeldN hb; have hHeld := hHeld2; clear hHeld2
        try simp only [Act.put, tl1, tl2, tl3]
        refine wpAnyH_ready (rs := [4]) (by kernel_rfl) (by simp) ?_
        refine AllReadyH.cons (o := ⟨_, _, _, _, _, _⟩) rfl (fun K hK => ?_) AllReadyH.nil
        have hz := own_fill_c hmq.ok HKk2.out
        obtain ⟨z1, z2⟩ := hz
        go_simp
        clear z1 z2
        have hHeldN := hHeld
        refine hK.out _ _ ?_ (fun hHeld2 => ?_)
        · exact hHeldN
        clear hK K hHeldN; have hHeld := hHeld2; clear hHeld2
        try simp only [Act.put, tl1, tl2, tl3]
        exact hCut m141 V141 ⟨hm141, hbc, hHeld⟩
      intro m141 Wc18_1 ⟨hm141, hbN, hHeldN⟩
      have rby := rby.bel hbN
      have hmq := hmq.bel hbN
      have hbc := hbc.trans (hbN.mono hbc.size); clear hHeld hbN; have hHeld := hHeldN; clear hHeldN
      refine wpAnyH_ready (rs := [9]) (by kernel_rfl) (by simp) ?_
      refine AllReadyH.cons (o := ⟨_, _, _, _, _, _⟩) rfl (fun K hK => ?_) AllReadyH.nil
      go_simp
      refine (pick_any _ _ _ _ (by omega) (by omega) (by omega) hm141).mono ?_
      rintro e V142 ⟨r142, rfl, hr142, hb⟩
      go_wp2_with fail
      have hHeldN := hHeld.trans (Kept.all _ hb)
      have rby := rby.bel hb
      have hmq := hmq.bel hb
      have hbc := hbc.trans (hb.mono hbc.size)
      refine hK.out _ _ ?_ (fun hHeld2 => ?_)
      · exact hHeldN
      clear hK K hHeld hHeldN hb; have hHeld := hHeld2; clear hHeld2
      try simp only [Act.put, tl1, tl2, tl3]
      iterate 3
        refine tkHl [10, 11, 12] ?_ rfl rfl (Or.inl ⟨by rfl, ?_⟩) hHeld ?_
        rotate_left
        · (intro w _; go_simp; try (with_reducible rfl))
        try simp only [Act.put, tl1, tl2, tl3]
      refine wpAnyH_ready (rs := [13]) (by kernel_rfl) (by simp) ?_
      refine AllReadyH.cons (o := ⟨_, _, _, _, _, _⟩) rfl (fun K hK => ?_) AllReadyH.nil
      have Hmq := hide hmq
      obtain ⟨z1, z2⟩ := own_fill_c Hmq.out.ok HKk2.out
      have y1 := own_frzC Hmq.out.ok (k * 5 + 4)
      clear hmq
      go_simp
      refine hK.out _ _ ?_ (fun _ => ?_)
      · (try dsimp only); exact hHeld.trans (Kept.setCell _ ⟨gk, k * 5 + 4, none⟩ _)
      clear hK K hHeld
      try simp only [Act.put, tl1, tl2, tl3]
      refine wpAnyH_done (by kernel_rfl) ?_ _
      clear hbc hdr z1 z2 y1
      have hK3 := own_fill_hi Hmq.out.ok HKk2.out (by rw [List.length_set]; exact HKl.out) r142
      have hmq8 := Hmq.out.turnK (Kept.setCell V142 ⟨gk, k * 5 + 4, none⟩ (.int .i64 r142)) (Hok2.out gk rfl) hK3
      rw [show k * 5 + 3 + 1 = k * 5 + 4 from rfl]
      obtain ⟨w11, Hw11⟩ : ∃ w', Hid (V142.setCell ⟨gk, k * 5 + 4, none⟩ (.int .i64 r142) = w') := ⟨_, hide rfl⟩
      rw [Hw11.out] at hmq8 ⊢
      have hr2 := hr142
      unfold inC at hr2
      dsimp only at hr2
      have HD2 := hide (HD.out.set (i := k) (x := ⟨f1, ⟨s0 - ls, s1 - ls⟩, l1⟩) Hca.out (by unfold denseOf; dsimp only; exact ⟨hda.1, hda.2.1, by omega, by omega, by omega⟩))
      have HK2 := hide ((HK.out.set (i := k) (x := ⟨f2, ⟨r129, u1⟩, ⟨v0, v1⟩⟩) Hca.out (by unfold knownOf; dsimp only; exact ⟨hka.1, by omega, by omega, by omega, by omega⟩)).set (i := k) (x := ⟨f2, ⟨r129, u1⟩, ⟨v0, r142⟩⟩) Hca.out (by unfold knownOf; dsimp only; exact ⟨hka.1, by omega, by omega, by omega, by omega⟩))
      have Hmq8 := hide hmq8
      clear Hw11 Hmq rby hmq8 hm141 hK3 hr142 hr2 hr1
      go_wp2_with fail
      exact ⟨⟨k + 1, _, _, by omega, by go_num, Hmq8, HD2, HK2⟩, by simp [intOf]; omega⟩
    · obtain rfl : nc = k := by omega
      have Hmq := hide hmq
      have rby := Hrby.out.bel bl
      have hdr := (netOk_parts Hok.out).2.2.1
      have Hx := hide (Hxn.out.bel bl)
      have hxne : w.heap.size ≠ b14 := by have := Hxn.out.1; have := Ho14.out.le; omega
      have fA : IntKind.i64.wrap (23040 - dry) = 23040 - dry := wrapI (by omega)
      have fB : IntKind.i64.wrap (23040 - dry + 1) = 23040 - dry + 1 := wrapI (by omega)
      clear hmq0 bl Hmq
      go_wp2_with fail
      refine wp_region_held_drew (S := (fun W => Kept (fun b => b ≠ b14) wo W)) (by kernel_rfl) (by (try dsimp only); exact Kept.all _ (Below.refl _ _).drew) (fun hHeld => ?_)
      have hdr : Below wo.heap.size wo (World.drew wo) := (Below.refl _ _).drew
      generalize World.drew wo = Wd20 at hHeld hdr ⊢
      have rby := rby.bel hdr
      have hmq := hmq.bel hdr
      have hbc := Below.refl Wd20.heap.size Wd20
      iterate 3
        refine tkHl [0, 2, 5] ?_ rfl rfl (Or.inl ⟨by rfl, ?_⟩) hHeld ?_
        rotate_left
        · (intro w _; go_simp; try (with_reducible rfl))
        try simp only [Act.put, tl1, tl2, tl3]
      refine tkH 6 ?_ rfl (Or.inl ⟨by rfl, ?_⟩) hHeld ?_
      rotate_left
      · (intro w hSw; (try dsimp only at hSw); obtain ⟨q0, q1, q2, q3⟩ := (Hx.out.kept hSw hxne).c4; go_simp; try (with_reducible rfl))
      try simp only [Act.put, tl1, tl2, tl3]
      iterate 2
        refine tkHl [7, 8] ?_ rfl rfl (Or.inl ⟨by rfl, ?_⟩) hHeld ?_
        rotate_left
        · (intro w _; go_simp; try (with_reducible rfl))
        try simp only [Act.put, tl1, tl2, tl3]
      refine cut2 (C := fun (m150 : Nat) (dm : Int) (Wc20_1 : World) => (0 ≤ dm ∧ dm < 23040 - dry + 1) ∧ Below Wd20.heap.size Wd20 Wc20_1 ∧ Kept (fun b => b ≠ b14) wo Wc20_1) (G := ?_) ?_ ?_
      rotate_left
      · intro hCut
        replace hbc := Below.refl Wd20.heap.size Wd20
        refine wpAnyH_ready (rs := [1, 3]) (by kernel_rfl) (by simp) ?_
        refine AllReadyH.cons (o := ⟨_, _, _, _, _, _⟩) rfl (fun K hK => ?_) ?_
        ·
          have hz := hmq.a14.c4
          obtain ⟨z0, z1, z2, z3⟩ := hz
          go_simp
          clear z0 z1 z2 z3
          have hHeldN := hHeld
          refine hK.out _ _ ?_ (fun hHeld2 => ?_)
          · exact hHeldN
          clear hK K hHeldN; have hHeld := hHeld2; clear hHeld2
          try simp only [Act.put, tl1, tl2, tl3]
          refine wpAnyH_ready (rs := [3]) (by kernel_rfl) (by simp) ?_
          refine AllReadyH.cons (o := ⟨_, _, _, _, _, _⟩) rfl (fun K hK => ?_) AllReadyH.nil
          go_simp
          refine (at_any _ _ _ bys _ _ Hnb.out H32.out rby Hnb2.out (by omega) (by omega)).mono ?_
          rintro e V150 ⟨m150, rfl, hm150, hb⟩
          have nz150 : ¬ 23040 - dry + 1 = 0 := by omega
          have fmm150 : IntKind.i64.wrap (m150 : Int) = m150 := wrapI (by omega)
          obtain ⟨dm, hdm⟩ : ∃ dm, dm = (m150 : Int) % (23040 - dry + 1) := ⟨_, rfl⟩
          have tdm : Int.tmod (m150 : Int) (23040 - dry + 1) = dm := by rw [Int.tmod_eq_emod_of_nonneg (by omega), hdm]
          have bdm : 0 ≤ dm ∧ dm < 23040 - dry + 1 := by rw [hdm]; exact ⟨Int.emod_nonneg _ (by omega), Int.emod_lt_of_pos _ (by omega)⟩
          clear hdm
          have fC : IntKind.i64.wrap (dry + dm) = dry + dm := wrapI (by omega)
          go_wp2_with fail
          have hHeldN := hHeld.trans (Kept.all _ hb)
          have rby := rby.bel hb
          have hmq := hmq.bel hb
          have hbc := hbc.trans (hb.mono hbc.size)
          refine hK.out _ _ ?_ (fun hHeld2 => ?_)
          · exact hHeldN
          clear hK K hHeldN hb; have hHeld := hHeld2; clear hHeld2
          try simp only [Act.put, tl1, tl2, tl3]
          iterate 4
            refine tkHl [4, 9, 10, 11] ?_ rfl rfl (Or.inl ⟨by rfl, ?_⟩) hHeld ?_
            rotate_left
            · (intro w _; go_simp; try (with_reducible rfl))
            try simp only [Act.put, tl1, tl2, tl3]
          exact hCut m150 dm V150 ⟨bdm, hbc, hHeld⟩
        refine AllReadyH.cons (o := ⟨_, _, _, _, _, _⟩) rfl (fun K hK => ?_) AllReadyH.nil
        go_simp
        refine (at_any _ _ _ bys _ _ Hnb.out H32.out rby Hnb2.out (by omega) (by omega)).mono ?_
        rintro e V150 ⟨m150, rfl, hm150, hb⟩
        have nz150 : ¬ 23040 - dry + 1 = 0 := by omega
        have fmm150 : IntKind.i64.wrap (m150 : Int) = m150 := wrapI (by omega)
        obtain ⟨dm, hdm⟩ : ∃ dm, dm = (m150 : Int) % (23040 - dry + 1) := ⟨_, rfl⟩
        have tdm : Int.tmod (m150 : Int) (23040 - dry + 1) = dm := by rw [Int.tmod_eq_emod_of_nonneg (by omega), hdm]
        have bdm : 0 ≤ dm ∧ dm < 23040 - dry + 1 := by rw [hdm]; exact ⟨Int.emod_nonneg _ (by omega), Int.emod_lt_of_pos _ (by omega)⟩
        clear hdm
        have fC : IntKind.i64.wrap (dry + dm) = dry + dm := wrapI (by omega)
        go_wp2_with fail
        have hHeldN := hHeld.trans (Kept.all _ hb)
        have rby := rby.bel hb
        have hmq := hmq.bel hb
        have hbc := hbc.trans (hb.mono hbc.size)
        refine hK.out _ _ ?_ (fun hHeld2 => ?_)
        · exact hHeldN
        clear hK K hHeldN hb; have hHeld := hHeld2; clear hHeld2
        try simp only [Act.put, tl1, tl2, tl3]
        iterate 2
          refine tkHl [4, 9] ?_ rfl rfl (Or.inl ⟨by rfl, ?_⟩) hHeld ?_
          rotate_left
          · (intro w _; go_simp; try (with_reducible rfl))
          try simp only [Act.put, tl1, tl2, tl3]
        refine wpAnyH_ready (rs := [1]) (by kernel_rfl) (by simp) ?_
        refine AllReadyH.cons (o := ⟨_, _, _, _, _, _⟩) rfl (fun K hK => ?_) AllReadyH.nil
        have hz := hmq.a14.c4
        obtain ⟨z0, z1, z2, z3⟩ := hz
        go_simp
        clear z0 z1 z2 z3
        have hHeldN := hHeld
        refine hK.out _ _ ?_ (fun hHeld2 => ?_)
        · exact hHeldN
        clear hK K hHeldN; have hHeld := hHeld2; clear hHeld2
        try simp only [Act.put, tl1, tl2, tl3]
        iterate 2
          refine tkHl [10, 11] ?_ rfl rfl (Or.inl ⟨by rfl, ?_⟩) hHeld ?_
          rotate_left
          · (intro w _; go_simp; try (with_reducible rfl))
          try simp only [Act.put, tl1, tl2, tl3]
        exact hCut m150 dm V150 ⟨bdm, hbc, hHeld⟩
      intro m150 dm Wc20_1 ⟨bdm, hbN, hHeldN⟩
      have rby := rby.bel hbN
      have hmq := hmq.bel hbN
      have hbc := hbc.trans (hbN.mono hbc.size); clear hHeld hbN; have hHeld := hHeldN; clear hHeldN
      refine wpAnyH_ready (rs := [12]) (by kernel_rfl) (by simp) ?_
      refine AllReadyH.cons (o := ⟨_, _, _, _, _, _⟩) rfl (fun K hK => ?_) AllReadyH.nil
      have Hmq := hide hmq
      obtain ⟨z0, z1, z2, z3⟩ := Hmq.out.a14.c4
      have y2 := Hmq.out.f14 2
      clear hmq
      go_simp
      refine hK.out _ _ ?_ (fun _ => ?_)
      · (try dsimp only); exact hHeld.trans (Kept.setCell _ ⟨b14, 2, none⟩ _)
      clear hK K hHeld
      try simp only [Act.put, tl1, tl2, tl3]
      refine wpAnyH_done (by kernel_rfl) ?_ _
      clear hbc hdr Hx z0 z1 z2 z3 y2
      have hset := Hmq.out.a14.set (j := 2) (.int .i64 (dry + dm)) (by simp)
      simp only [List.set_cons_zero, List.set_cons_succ] at hset
      have hmq8 := Hmq.out.turn14 (Kept.setCell Wc20_1 ⟨b14, 2, none⟩ (.int .i64 (dry + dm))) Ho14.out hset (fun j => by rw [World.frozen?_setCell]; exact Hmq.out.f14 j)
      obtain ⟨w12, Hw12⟩ : ∃ w', Hid (Wc20_1.setCell ⟨b14, 2, none⟩ (.int .i64 (dry + dm)) = w') := ⟨_, hide rfl⟩
      rw [Hw12.out] at hmq8 ⊢
      clear Hw12 hset Hmq rby fA fB
      have hmq := hmq8
      have rby := Hrby.out.bel hmq.bl
      have Hy := hide (Hxf.out.bel hmq.bl)
      have fA : IntKind.i64.wrap (13000000 - b) = 13000000 - b := wrapI (by omega)
      have fB : IntKind.i64.wrap (13000000 - b + 1) = 13000000 - b + 1 := wrapI (by omega)
      clear hmq8
      go_wp2_with fail
      refine wp_region_held_drew (S := (fun W => Below w12.heap.size w12 W)) (by kernel_rfl) (by (try dsimp only); exact (Below.refl _ _).drew) (fun hHeld => ?_)
      generalize World.drew w12 = Wd21 at hHeld ⊢
      have rby := rby.bel hHeld
      have hmq := hmq.bel hHeld
      have hbc := Below.refl Wd21.heap.size Wd21
      iterate 2
        refine tkHl [0, 3] ?_ rfl rfl (Or.inl ⟨by rfl, ?_⟩) hHeld ?_
        rotate_left
        · (intro w _; go_simp; try (with_reducible rfl))
        try simp only [Act.put, tl1, tl2, tl3]
      refine tkH 4 ?_ rfl (Or.inl ⟨by rfl, ?_⟩) hHeld ?_
      rotate_left
      · (intro w hSw; (try dsimp only at hSw); obtain ⟨p0, p1⟩ := (Hy.out.below hSw).c2; go_simp; try (with_reducible rfl))
      try simp only [Act.put, tl1, tl2, tl3]
      iterate 2
        refine tkHl [5, 6] ?_ rfl rfl (Or.inl ⟨by rfl, ?_⟩) hHeld ?_
        rotate_left
        · (intro w _; go_simp; try (with_reducible rfl))
        try simp only [Act.put, tl1, tl2, tl3]
      refine wpAnyH_ready (rs := [1]) (by kernel_rfl) (by simp) ?_
      refine AllReadyH.cons (o := ⟨_, _, _, _, _, _⟩) rfl (fun K hK => ?_) AllReadyH.nil
      go_simp
      refine (at_any _ _ _ bys _ _ Hnb.out H32.out rby Hnb2.out (by omega) (by omega)).mono ?_
      rintro e V160 ⟨m160, rfl, hm160, hb⟩
      have nz160 : ¬ 13000000 - b + 1 = 0 := by omega
      have fmm160 : IntKind.i64.wrap (m160 : Int) = m160 := wrapI (by omega)
      obtain ⟨mo, hmo⟩ : ∃ mo, mo = (m160 : Int) % (13000000 - b + 1) := ⟨_, rfl⟩
      have tmo : Int.tmod (m160 : Int) (13000000 - b + 1) = mo := by rw [Int.tmod_eq_emod_of_nonneg (by omega), hmo]
      have bmo : 0 ≤ mo ∧ mo < 13000000 - b + 1 := by rw [hmo]; exact ⟨Int.emod_nonneg _ (by omega), Int.emod_lt_of_pos _ (by omega)⟩
      clear hmo
      go_wp2_with fail
      have hHeldN := hHeld.trans (hb.mono hHeld.size)
      have rby := rby.bel hb
      have hmq := hmq.bel hb
      have hbc := hbc.trans (hb.mono hbc.size)
      refine hK.out _ _ ?_ (fun hHeld2 => ?_)
      · exact hHeldN
      clear hK K hHeld hHeldN hb; have hHeld := hHeld2; clear hHeld2
      try simp only [Act.put, tl1, tl2, tl3]
      iterate 3
        refine tkHl [2, 7, 8] ?_ rfl rfl (Or.inl ⟨by rfl, ?_⟩) hHeld ?_
        rotate_left
        · (intro w _; go_simp; try (with_reducible rfl))
        try simp only [Act.put, tl1, tl2, tl3]
      refine wpAnyH_done (by kernel_rfl) ?_ _
      clear hbc hHeld Hy rby fA fB fmm160 nz160 tmo hm160
      obtain ⟨p0, p1⟩ := (Hxf.out.bel hmq.bl).c2
      have fA : IntKind.i64.wrap (a + mo) = a + mo := wrapI (by omega)
      have fB : IntKind.i64.wrap (b + mo) = b + mo := wrapI (by omega)
      have Hmq := hide hmq
      clear hmq
      go_wp2_with fail
      refine (span_any _ _ _).mono ?_
      rintro e w13 ⟨rfl, hb⟩
      have hmq := Hmq.out.bel hb
      clear p0 p1 hb Hmq fA fB
      obtain ⟨b21, w14, eb21, ew21, x21, _, hb1⟩ := mk_box w13 #[.int .i64 (a + mo), .int .i64 (b + mo)] 27
      replace hmq := hmq.bel hb1
      go_upto_region 23 with fail
      rw [ew21.out, eb21.out]
      clear ew21 eb21
      have hl0 := hide (lit0 (cells := Us.cells) w14 47 3 w14.heap.size (fun _ => rfl) (Nat.le_refl _))
      have hbl := below_new w14 (.cells #[] 47)
      have Hr0 := hide (((Hru.out.bel hmq.bl).below hbl).more hbl.size)
      have hz14 : (w14.alloc (.cells #[] 47)).heap.size = w14.heap.size + 1 := by simp
      have Hmq := hide hmq; have Hx21 := hide x21; have Hbl := hide hbl
      have hul : us.length ≤ 60 := by have := Hu.out; omega
      clear hmq x21 hb1 hbl
      go_upto_region 25 with (at_builtin; go_loud (refine wpList_app (v := .slice (some ⟨w14.heap.size, 0, none⟩) 0 0) (xs := []) (ys := us) (n := nu) el_us rfl (.tmp 176) (.tmp 177) rfl rfl hl0.out Hu.out.symm rfl Hr0.out (by simp; omega) (by rw [hz14]; omega) ?_; intro vv wv hown1 hg1 hat1'; have Hown1 := hide hown1; have Hkv := hide (kept_app2 (W := w14.alloc (.cells #[] 47)) hl0.out (Below.refl _ _) hg1); obtain ⟨Bl, dl, rfl, hrd1⟩ := hown1.rd; clear hown1 hg1 hat1' hrd1))
      have hkv : Kept (fun b => b < w14.heap.size) w14 wv := ((Kept.all (fun _ => True) Hbl.out).mono (fun _ _ _ => trivial)).trans (Hkv.out.mono fun b _ hb e => by simp [Value.ownBlock] at e; omega)
      have hb15 : Below w14.heap.size w14 wv := hkv.below (fun b h => h) (Nat.le_refl _)
      obtain ⟨w15, rfl⟩ : ∃ x, x = wv := ⟨wv, rfl⟩
      have hlg := Hown1.out
      simp only [List.nil_append] at hlg ⊢
      rw [← Hu.out] at hlg ⊢
      have hbnd : 0 ≤ b ∧ dry + dm ≤ 23040 ∧ b + mo ≤ 13000000 := ⟨by omega, by omega, by omega⟩
      have Hws1 := hide (watersS_ok (dense_net Hok.out HD.out) Huo.out Hsp.out)
      have Hws2 := hide (watersS_ok (netOk_dry2 Hok.out (d := dry + dm) (by omega) hbnd.2.1) Huo.out Hsp.out)
      have Hws3 := hide (watersS_ok Hok.out Huo.out (show Sp.ok 0 13000000 ⟨a + mo, b + mo⟩ = true by simp only [Sp.ok, Bool.and_eq_true, decide_eq_true_eq]; omega))
      have Hws5 := hide (watersS_ok (known_net Hok.out HK.out) Huo.out Hsp.out)
      have Hwn1 := hide ((waters_len2 D fs dry (days * 1440) a b us us.length).trans (HD.out.1.symm.trans Hc.out.symm))
      have Hwn2 := hide ((waters_len2 cs fs (dry + dm) (days * 1440) a b us us.length).trans Hc.out.symm)
      have Hwn3 := hide ((waters_len2 cs fs dry (days * 1440) (a + mo) (b + mo) us us.length).trans Hc.out.symm)
      have Hwn5 := hide ((waters_len2 K fs dry (days * 1440) a b us us.length).trans (HK.out.1.symm.trans Hc.out.symm))
      have HDl := hide (Hc.out.trans HD.out.1)
      have HKl := hide (Hc.out.trans HK.out.1)
      have hls : Sp.ok 0 13000000 ⟨a, b⟩ = true := Hsp.out
      clear Hkv hkv Hown1 hl0 Hr0 hz14 hls
      have hdr0 : 0 ≤ dry := (netOk_parts Hok.out).2.2.1.1
      by_cases hu0 : nu = 0
      · as_aux_lemma =>
        have n1 : ¬ (0 : Int) < (nu : Int) := by omega
        have n0 : decide ((0 : Int) < (nu : Int)) = false := decide_eq_false n1
        clear hu0
        obtain ⟨W0, rfl⟩ : ∃ x, x = w15 := ⟨w15, rfl⟩
        obtain ⟨us2, hus2⟩ : ∃ x, x = us := ⟨_, rfl⟩
        have rl2 : Rd W0 W0.heap.size Us.cells Bl us2 := by rw [hus2]; exact own_rd hlg
        have Huo2 : Hid (usesOk fs.length days us2 = true) := hide (by rw [hus2]; exact Huo.out)
        have Hle := hide (show usLe us us2 by rw [hus2]; exact usLe.refl us)
        have HuN2 : Hid (nu = us2.length) := hide (by rw [hus2]; exact Hu.out)
        have hmq := Hmq.out.bel hb15
        have x21 := Hx21.out.bel hb15
        clear hus2 hlg hb15 Hmq Hx21 rby
        have Hma := hide (fun i => more_all2 Hok.out (netOk_dry2 Hok.out (d := dry + dm) (by omega) hbnd.2.1) HD.out HK.out Huo.out Huo2.out Hle.out ha0 hbnd.1 bmo.1 bdm.1 i)
        have Hws4 := hide (watersS_ok Hok.out Huo2.out Hsp.out)
        have Hwn4 := hide ((waters_len2 cs fs dry (days * 1440) a b us2 us2.length).trans Hc.out.symm)
        clear Huo2 Hle
        obtain ⟨z0, z1, z2, z3⟩ := hmq.a13.c4
        obtain ⟨p0, p1⟩ := (Hxf.out.bel hmq.bl).c2
        have nX : NetAt W0 Bd Bfd nc nf D fs := ⟨own_rd hmq.od, own_rd hmq.fd, HDl.out, Hf.out, by omega, by omega⟩
        have ruX := Hru.out.bel hmq.bl
        have Hmq := hide hmq; have Hx21 := hide x21; have Hrl2 := hide rl2; have HnX := hide nX; have HruX := hide ruX
        clear hmq x21 rl2 nX ruX
        go_wp2_with fail
        refine (waters_fn _ _ _ _ _ _ _ _ _ _ _ _ _ _ _ us _ HnX.out HruX.out Hu.out (by omega)).mono ?_
        rintro e W1 ⟨v1, v2, rfl, o1, o2, hb⟩
        simp only [Hws1.out] at o1 o2 ⊢
        obtain ⟨A1, c1, rfl, r1⟩ := o1.rdn nf ((waters_len _ _ _ _ _ _ _ _).trans Hf.out.symm)
        obtain ⟨B1, d1, rfl, _⟩ := o2.rdn nc Hwn1.out
        have hmq := Hmq.out.bel hb; have x21 := Hx21.out.bel hb; have rl2 := Hrl2.out.bel hb
        have Hr1 := hide r1
        clear r1
        clear o1 o2 hb z0 z1 z2 z3 p0 p1 Hmq Hx21 Hrl2 HnX HruX
        obtain ⟨z0, z1, z2, z3⟩ := hmq.a14.c4
        obtain ⟨p0, p1⟩ := (Hxf.out.bel hmq.bl).c2
        have nX : NetAt W1 Bw Bfw nc nf cs fs := ⟨own_rd hmq.ow, own_rd hmq.fw, Hc.out, Hf.out, by omega, by omega⟩
        have ruX := Hru.out.bel hmq.bl
        have Hmq := hide hmq; have Hx21 := hide x21; have Hrl2 := hide rl2; have HnX := hide nX; have HruX := hide ruX
        clear hmq x21 rl2 nX ruX
        go_wp2_with fail
        refine (waters_fn _ _ _ _ _ _ _ _ _ _ _ _ _ _ _ us _ HnX.out HruX.out Hu.out (by omega)).mono ?_
        rintro e W2 ⟨v1, v2, rfl, o1, o2, hb⟩
        simp only [Hws2.out] at o1 o2 ⊢
        obtain ⟨A2, c2, rfl, r2⟩ := o1.rdn nf ((waters_len _ _ _ _ _ _ _ _).trans Hf.out.symm)
        obtain ⟨B2, d2, rfl, _⟩ := o2.rdn nc Hwn2.out
        have hmq := Hmq.out.bel hb; have x21 := Hx21.out.bel hb; have rl2 := Hrl2.out.bel hb
        have r1 := Hr1.out.bel hb
        have Hr1 := hide r1
        have Hr2 := hide r2
        clear r1 r2
        clear o1 o2 hb z0 z1 z2 z3 p0 p1 Hmq Hx21 Hrl2 HnX HruX
        obtain ⟨z0, z1, z2, z3⟩ := (Hxn.out.bel hmq.bl).c4
        obtain ⟨p0, p1⟩ := x21.c2
        have nX : NetAt W2 Ac Af nc nf cs fs := Hn1.out.bel hmq.bl
        have ruX := Hru.out.bel hmq.bl
        have Hmq := hide hmq; have Hx21 := hide x21; have Hrl2 := hide rl2; have HnX := hide nX; have HruX := hide ruX
        clear hmq x21 rl2 nX ruX
        go_wp2_with fail
        refine (waters_fn _ _ _ _ _ _ _ _ _ _ _ _ _ _ _ us _ HnX.out HruX.out Hu.out (by omega)).mono ?_
        rintro e W3 ⟨v1, v2, rfl, o1, o2, hb⟩
        simp only [Hws3.out] at o1 o2 ⊢
        obtain ⟨A3, c3, rfl, r3⟩ := o1.rdn nf ((waters_len _ _ _ _ _ _ _ _).trans Hf.out.symm)
        obtain ⟨B3, d3, rfl, _⟩ := o2.rdn nc Hwn3.out
        have hmq := Hmq.out.bel hb; have x21 := Hx21.out.bel hb; have rl2 := Hrl2.out.bel hb
        have r1 := Hr1.out.bel hb
        have r2 := Hr2.out.bel hb
        have Hr1 := hide r1
        have Hr2 := hide r2
        have Hr3 := hide r3
        clear r1 r2 r3
        clear o1 o2 hb z0 z1 z2 z3 p0 p1 Hmq Hx21 Hrl2 HnX HruX
        obtain ⟨z0, z1, z2, z3⟩ := (Hxn.out.bel hmq.bl).c4
        obtain ⟨p0, p1⟩ := (Hxf.out.bel hmq.bl).c2
        have nX : NetAt W3 Ac Af nc nf cs fs := Hn1.out.bel hmq.bl
        have ruX := rl2
        have Hmq := hide hmq; have Hx21 := hide x21; have Hrl2 := hide rl2; have HnX := hide nX; have HruX := hide ruX
        clear hmq x21 rl2 nX ruX
        go_wp2_with fail
        refine (waters_fn _ _ _ _ _ _ _ _ _ _ _ _ _ _ _ us2 _ HnX.out HruX.out HuN2.out (by omega)).mono ?_
        rintro e W4 ⟨v1, v2, rfl, o1, o2, hb⟩
        simp only [Hws4.out] at o1 o2 ⊢
        obtain ⟨A4, c4, rfl, r4⟩ := o1.rdn nf ((waters_len _ _ _ _ _ _ _ _).trans Hf.out.symm)
        obtain ⟨B4, d4, rfl, _⟩ := o2.rdn nc Hwn4.out
        have hmq := Hmq.out.bel hb; have x21 := Hx21.out.bel hb; have rl2 := Hrl2.out.bel hb
        have r1 := Hr1.out.bel hb
        have r2 := Hr2.out.bel hb
        have r3 := Hr3.out.bel hb
        have Hr1 := hide r1
        have Hr2 := hide r2
        have Hr3 := hide r3
        have Hr4 := hide r4
        clear r1 r2 r3 r4
        clear o1 o2 hb z0 z1 z2 z3 p0 p1 Hmq Hx21 Hrl2 HnX HruX
        obtain ⟨z0, z1, z2, z3⟩ := hmq.a15.c4
        obtain ⟨p0, p1⟩ := (Hxf.out.bel hmq.bl).c2
        have nX : NetAt W4 Bk Bfk nc nf K fs := ⟨own_rd hmq.ok, own_rd hmq.fk, HKl.out, Hf.out, by omega, by omega⟩
        have ruX := Hru.out.bel hmq.bl
        have Hmq := hide hmq; have Hx21 := hide x21; have Hrl2 := hide rl2; have HnX := hide nX; have HruX := hide ruX
        clear hmq x21 rl2 nX ruX
        go_wp2_with fail
        refine (waters_fn _ _ _ _ _ _ _ _ _ _ _ _ _ _ _ us _ HnX.out HruX.out Hu.out (by omega)).mono ?_
        rintro e W5 ⟨v1, v2, rfl, o1, o2, hb⟩
        simp only [Hws5.out] at o1 o2 ⊢
        obtain ⟨A5, c5, rfl, r5⟩ := o1.rdn nf ((waters_len _ _ _ _ _ _ _ _).trans Hf.out.symm)
        obtain ⟨B5, d5, rfl, _⟩ := o2.rdn nc Hwn5.out
        have hmq := Hmq.out.bel hb; have x21 := Hx21.out.bel hb; have rl2 := Hrl2.out.bel hb
        have r1 := Hr1.out.bel hb
        have r2 := Hr2.out.bel hb
        have r3 := Hr3.out.bel hb
        have r4 := Hr4.out.bel hb
        have Hr1 := hide r1
        have Hr2 := hide r2
        have Hr3 := hide r3
        have Hr4 := hide r4
        have Hr5 := hide r5
        clear r1 r2 r3 r4 r5
        clear o1 o2 hb z0 z1 z2 z3 p0 p1 Hmq Hx21 Hrl2 HnX HruX
        have Hmq := hide hmq
        clear hmq x21 rl2
        go_wp2_with fail
        go_loopw [313] (fun i wr => ∃ k : Nat, k ≤ nf ∧ i = .int .i64 k ∧ Below W5.heap.size W5 wr) (fun i _ => nf - (intOf i).toNat)
        case atStart => exact ⟨0, by omega, rfl, Below.refl _ _⟩
        case round => as_aux_lemma =>
          obtain ⟨k, hk, rfl, hb⟩ := hrel
          by_cases hkl : k < nf
          · have hma := Hma.out k
            obtain ⟨n0, o0, y0, z0, e0, lb0, hx0, c0_, g0_⟩ := (Hrl.out.bel (Hmq.out.bl.trans (hb.mono Hmq.out.bl.size))).sp (i := k) (by rw [waters_len]; have := Hf.out; omega)
            subst e0
            rw [atS_lo _ _ _ hx0] at hma
            clear hx0
            obtain ⟨n1, o1, y1, z1, e1, lb1, hx1, c1_, g1_⟩ := (Hr1.out.bel hb).sp (i := k) (by rw [waters_len]; have := Hf.out; omega)
            subst e1
            rw [atS_lo _ _ _ hx1] at hma
            clear hx1
            obtain ⟨n2, o2, y2, z2, e2, lb2, hx2, c2_, g2_⟩ := (Hr2.out.bel hb).sp (i := k) (by rw [waters_len]; have := Hf.out; omega)
            subst e2
            rw [atS_lo _ _ _ hx2] at hma
            clear hx2
            obtain ⟨n3, o3, y3, z3, e3, lb3, hx3, c3_, g3_⟩ := (Hr3.out.bel hb).sp (i := k) (by rw [waters_len]; have := Hf.out; omega)
            subst e3
            rw [atS_lo _ _ _ hx3] at hma
            clear hx3
            obtain ⟨n4, o4, y4, z4, e4, lb4, hx4, c4_, g4_⟩ := (Hr4.out.bel hb).sp (i := k) (by rw [waters_len]; have := Hf.out; omega)
            subst e4
            rw [atS_lo _ _ _ hx4] at hma
            clear hx4
            obtain ⟨n5, o5, y5, z5, e5, lb5, hx5, c5_, g5_⟩ := (Hr5.out.bel hb).sp (i := k) (by rw [waters_len]; have := Hf.out; omega)
            subst e5
            rw [atS_lo _ _ _ hx5] at hma
            clear hx5
            unfold moreAt at hma
            dsimp only at hma
            obtain ⟨⟨m1, m2⟩, ⟨m3, m4⟩, ⟨m5, m6⟩, ⟨m7, m8⟩, m9, m10⟩ := hma
            have i0 : (0 : Int) ≤ (k : Int) := by omega
            have i1 : (k : Int) < (nf : Int) := by omega
            obtain ⟨u3, bu3, q1⟩ := min4_ex m1 m3 m5 m7
            obtain ⟨w3_, bw3, q2⟩ := min4_ex m2 m4 m6 m8
            have e1 : decide (u3 < y0) = false := decide_eq_false (by omega)
            have e2 : decide (w3_ < z0) = false := decide_eq_false (by omega)
            have e3 : decide (y5 < y0) = false := decide_eq_false (by omega)
            have e4 : decide (z0 < z5) = false := decide_eq_false (by omega)
            clear bu3 bw3 m1 m2 m3 m4 m5 m6 m7 m8 m9 m10
            go_wp2_with fail
            refine wp_region_quiet_lit (by kernel_rfl) (by kernel_rfl) ?_
            dsimp only [List.append]
            as_aux_lemma =>
             iterate 9 go_big_quiet_step (fail)
             as_aux_lemma =>
              iterate 9 go_big_quiet_step (fail)
              as_aux_lemma =>
               iterate 9 go_big_quiet_step (fail)
               as_aux_lemma =>
                iterate 9 go_big_quiet_step (fail)
                as_aux_lemma =>
                 iterate 9 go_big_quiet_step (fail)
                 as_aux_lemma =>
                  iterate 9 go_big_quiet_step (fail)
                  as_aux_lemma =>
                   iterate 9 go_big_quiet_step (fail)
                   as_aux_lemma =>
                    iterate 9 go_big_quiet_step (fail)
                    as_aux_lemma =>
                     iterate 9 go_big_quiet_step (fail)
                     as_aux_lemma =>
                      iterate 1 go_big_quiet_step (fail)
                      refine wpQuiet_nil ?_
                      intro _ hw'
                      obtain ⟨nq, hw''⟩ := hw'
                      subst hw''
                      as_aux_lemma =>
                       go_wp2_with fail
                       exact ⟨⟨k + 1, by omega, by go_num, below_drewN hb _⟩, by simp [intOf]; omega⟩
          · obtain rfl : nf = k := by omega
            go_wp2_with fail
            go_ret
            exact ⟨rfl, hB.trans ((Hmq.out.bl.trans (hb.mono Hmq.out.bl.size)).mono hB.size)⟩
      · as_aux_lemma =>
        obtain ⟨m, hm⟩ : ∃ m, nu = m + 1 := ⟨nu - 1, by omega⟩
        subst hm
        obtain ⟨gl, rfl⟩ := own_at hlg (by omega)
        obtain ⟨⟨f, s, t⟩, hum⟩ : ∃ x, us[m]? = some x := ⟨_, List.getElem?_eq_getElem (by have := Hu.out; omega)⟩
        have hmu := usesOk_mem Huo.out (List.mem_of_getElem? hum)
        obtain ⟨⟨f0, f1⟩, hs0, hst, htc⟩ := hmu
        dsimp only at f0 f1 hs0 hst htc
        have HuL := hide hum
        have HuN := Hu
        have hmq := Hmq.out.bel hb15
        have x21 := Hx21.out.bel hb15
        have hgl := (own_bl hlg gl rfl).1
        obtain ⟨q0, q1, q2, q3⟩ := (Hxn.out.bel hmq.bl).c4
        have fD : IntKind.i64.wrap (days * 1440) = days * 1440 := wrapI (by omega)
        have fA : IntKind.i64.wrap (days * 1440 - t) = days * 1440 - t := wrapI (by omega)
        have fB : IntKind.i64.wrap (days * 1440 - t + 1) = days * 1440 - t + 1 := wrapI (by omega)
        have fE : IntKind.i64.wrap (m : Int) = m := wrapI (by omega)
        have fF : IntKind.i64.wrap (((m + 1 : Nat) : Int) - 1) = m := by rw [wrapI (by omega)]; omega
        have n0 : decide ((0 : Int) < ((m + 1 : Nat) : Int)) = true := decide_eq_true (by omega)
        have n1 : (0 : Int) < ((m + 1 : Nat) : Int) := by omega
        have i0 : (0 : Int) ≤ (m : Int) := by omega
        have i1 : (m : Int) < ((m + 1 : Nat) : Int) := by omega
        have i2 : (m : Int) < (m : Int) + 1 := by omega
        have Hlg2 := hide hlg; have Hmq2 := hide hmq; have Hx2 := hide x21; have Hbd15 := hide hb15
        have rby := Hrby.out.bel hmq.bl
        have Hrb := hide rby
        clear hum hu0 hlg hmq x21 rby hb15
        go_upto_region 27 with fail
        have hlg := Hlg2.out; have hmq := Hmq2.out; have x21 := Hx2.out; have rby := Hrb.out
        clear q0 q1 q2 q3 Hlg2 Hmq2 Hx2 Hrb
        refine wp_region_held_drew (S := (fun W => Kept (fun b => b ≠ gl) w15 W)) (by kernel_rfl) (by (try dsimp only); exact Kept.all _ (Below.refl _ _).drew) (fun hHeld => ?_)
        have hdr : Below w15.heap.size w15 (World.drew w15) := (Below.refl _ _).drew
        generalize World.drew w15 = Wd27 at hHeld hdr ⊢
        have rby := rby.bel hdr
        have hmq := hmq.bel hdr
        have x21 := x21.bel hdr
        have hlg := hlg.bel hdr
        have hbc := Below.refl Wd27.heap.size Wd27
        iterate 14
          refine tkHl [0, 1, 2, 3, 4, 5, 7, 10, 11, 12, 13, 14, 15, 16] ?_ rfl rfl (Or.inl ⟨by rfl, ?_⟩) hHeld ?_
          rotate_left
          · (intro w _; go_simp; try (with_reducible rfl))
          try simp only [Act.put, tl1, tl2, tl3]
        refine cut2 (C := fun (m194 : Nat) (ex : Int) (Wc27_1 : World) => (0 ≤ ex ∧ ex < days * 1440 - t + 1) ∧ Below Wd27.heap.size Wd27 Wc27_1 ∧ Kept (fun b => b ≠ gl) w15 Wc27_1) (G := ?_) ?_ ?_
        rotate_left
        · intro hCut
          replace hbc := Below.refl Wd27.heap.size Wd27
          refine wpAnyH_ready (rs := [6, 8, 17]) (by kernel_rfl) (by simp) ?_
          refine AllReadyH.cons (o := ⟨_, _, _, _, _, _⟩) rfl (fun K hK => ?_) ?_
          ·
            have hz := own_use_c hlg HuL.out
            go_simp
            clear hz
            have hHeldN := hHeld
            refine hK.out _ _ ?_ (fun hHeld2 => ?_)
            · exact hHeldN
            clear hK K hHeldN; have hHeld := hHeld2; clear hHeld2
            try simp only [Act.put, tl1, tl2, tl3]
            refine wpAnyH_ready (rs := [8, 17]) (by kernel_rfl) (by simp) ?_
            refine AllReadyH.cons (o := ⟨_, _, _, _, _, _⟩) rfl (fun K hK => ?_) ?_
            ·
              go_simp
              refine (at_any _ _ _ bys _ _ Hnb.out H32.out rby Hnb2.out (by omega) (by omega)).mono ?_
              rintro e V194 ⟨m194, rfl, hm194, hb⟩
              have nz194 : ¬ days * 1440 - t + 1 = 0 := by omega
              have fmm194 : IntKind.i64.wrap (m194 : Int) = m194 := wrapI (by omega)
              obtain ⟨ex, hex⟩ : ∃ ex, ex = (m194 : Int) % (days * 1440 - t + 1) := ⟨_, rfl⟩
              have tex : Int.tmod (m194 : Int) (days * 1440 - t + 1) = ex := by rw [Int.tmod_eq_emod_of_nonneg (by omega), hex]
              have bex : 0 ≤ ex ∧ ex < days * 1440 - t + 1 := by rw [hex]; exact ⟨Int.emod_nonneg _ (by omega), Int.emod_lt_of_pos _ (by omega)⟩
              clear hex
              have fC : IntKind.i64.wrap (t + ex) = t + ex := wrapI (by omega)
              go_wp2_with fail
              have hHeldN := hHeld.trans (Kept.all _ hb)
              have rby := rby.bel hb
              have hmq := hmq.bel hb
              have x21 := x21.bel hb
              have hlg := hlg.bel hb
              have hbc := hbc.trans (hb.mono hbc.size)
              refine hK.out _ _ ?_ (fun hHeld2 => ?_)
              · exact hHeldN
              clear hK K hHeldN hb; have hHeld := hHeld2; clear hHeld2
              try simp only [Act.put, tl1, tl2, tl3]
              refine tkH 9 ?_ rfl (Or.inl ⟨by rfl, ?_⟩) hHeld ?_
              rotate_left
              · (intro w _; go_simp; try (with_reducible rfl))
              try simp only [Act.put, tl1, tl2, tl3]
              refine wpAnyH_ready (rs := [17]) (by kernel_rfl) (by simp) ?_
              refine AllReadyH.cons (o := ⟨_, _, _, _, _, _⟩) rfl (fun K hK => ?_) AllReadyH.nil
              have hz := own_use_c hlg HuL.out
              go_simp
              clear hz
              have hHeldN := hHeld
              refine hK.out _ _ ?_ (fun hHeld2 => ?_)
              · exact hHeldN
              clear hK K hHeldN; have hHeld := hHeld2; clear hHeld2
              try simp only [Act.put, tl1, tl2, tl3]
              iterate 7
                refine tkHl [18, 19, 20, 21, 22, 23, 24] ?_ rfl rfl (Or.inl ⟨by rfl, ?_⟩) hHeld ?_
                rotate_left
                · (intro w _; go_simp; try (with_reducible rfl))
                try simp only [Act.put, tl1, tl2, tl3]
              exact hCut m194 ex V194 ⟨bex, hbc, hHeld⟩
            refine AllReadyH.cons (o := ⟨_, _, _, _, _, _⟩) rfl (fun K hK => ?_) AllReadyH.nil
            have hz := own_use_c hlg HuL.out
            go_simp
            clear hz
            have hHeldN := hHeld
            refine hK.out _ _ ?_ (fun hHeld2 => ?_)
            · exact hHeldN
            clear hK K hHeldN; have hHeld := hHeld2; clear hHeld2
            try simp only [Act.put, tl1, tl2, tl3]
            iterate 2
              refine tkHl [18, 19] ?_ rfl rfl (Or.inl ⟨by rfl, ?_⟩) hHeld ?_
              rotate_left
              · (intro w _; go_simp; try (with_reducible rfl))
              try simp only [Act.put, tl1, tl2, tl3]
            refine wpAnyH_ready (rs := [8]) (by kernel_rfl) (by simp) ?_
            refine AllReadyH.cons (o := ⟨_, _, _, _, _, _⟩) rfl (fun K hK => ?_) AllReadyH.nil
            go_simp
            refine (at_any _ _ _ bys _ _ Hnb.out H32.out rby Hnb2.out (by omega) (by omega)).mono ?_
            rintro e V194 ⟨m194, rfl, hm194, hb⟩
            have nz194 : ¬ days * 1440 - t + 1 = 0 := by omega
            have fmm194 : IntKind.i64.wrap (m194 : Int) = m194 := wrapI (by omega)
            obtain ⟨ex, hex⟩ : ∃ ex, ex = (m194 : Int) % (days * 1440 - t + 1) := ⟨_, rfl⟩
            have tex : Int.tmod (m194 : Int) (days * 1440 - t + 1) = ex := by rw [Int.tmod_eq_emod_of_nonneg (by omega), hex]
            have bex : 0 ≤ ex ∧ ex < days * 1440 - t + 1 := by rw [hex]; exact ⟨Int.emod_nonneg _ (by omega), Int.emod_lt_of_pos _ (by omega)⟩
            clear hex
            have fC : IntKind.i64.wrap (t + ex) = t + ex := wrapI (by omega)
            go_wp2_with fail
            have hHeldN := hHeld.trans (Kept.all _ hb)
            have rby := rby.bel hb
            have hmq := hmq.bel hb
            have x21 := x21.bel hb
            have hlg := hlg.bel hb
            have hbc := hbc.trans (hb.mono hbc.size)
            refine hK.out _ _ ?_ (fun hHeld2 => ?_)
            · exact hHeldN
            clear hK K hHeldN hb; have hHeld := hHeld2; clear hHeld2
            try simp only [Act.put, tl1, tl2, tl3]
            iterate 6
              refine tkHl [9, 20, 21, 22, 23, 24] ?_ rfl rfl (Or.inl ⟨by rfl, ?_⟩) hHeld ?_
              rotate_left
              · (intro w _; go_simp; try (with_reducible rfl))
              try simp only [Act.put, tl1, tl2, tl3]
            exact hCut m194 ex V194 ⟨bex, hbc, hHeld⟩
          refine AllReadyH.cons (o := ⟨_, _, _, _, _, _⟩) rfl (fun K hK => ?_) ?_
          ·
            go_simp
            refine (at_any _ _ _ bys _ _ Hnb.out H32.out rby Hnb2.out (by omega) (by omega)).mono ?_
            rintro e V194 ⟨m194, rfl, hm194, hb⟩
            have nz194 : ¬ days * 1440 - t + 1 = 0 := by omega
            have fmm194 : IntKind.i64.wrap (m194 : Int) = m194 := wrapI (by omega)
            obtain ⟨ex, hex⟩ : ∃ ex, ex = (m194 : Int) % (days * 1440 - t + 1) := ⟨_, rfl⟩
            have tex : Int.tmod (m194 : Int) (days * 1440 - t + 1) = ex := by rw [Int.tmod_eq_emod_of_nonneg (by omega), hex]
            have bex : 0 ≤ ex ∧ ex < days * 1440 - t + 1 := by rw [hex]; exact ⟨Int.emod_nonneg _ (by omega), Int.emod_lt_of_pos _ (by omega)⟩
            clear hex
            have fC : IntKind.i64.wrap (t + ex) = t + ex := wrapI (by omega)
            go_wp2_with fail
            have hHeldN := hHeld.trans (Kept.all _ hb)
            have rby := rby.bel hb
            have hmq := hmq.bel hb
            have x21 := x21.bel hb
            have hlg := hlg.bel hb
            have hbc := hbc.trans (hb.mono hbc.size)
            refine hK.out _ _ ?_ (fun hHeld2 => ?_)
            · exact hHeldN
            clear hK K hHeldN hb; have hHeld := hHeld2; clear hHeld2
            try simp only [Act.put, tl1, tl2, tl3]
            refine tkH 9 ?_ rfl (Or.inl ⟨by rfl, ?_⟩) hHeld ?_
            rotate_left
            · (intro w _; go_simp; try (with_reducible rfl))
            try simp only [Act.put, tl1, tl2, tl3]
            refine wpAnyH_ready (rs := [6, 17]) (by kernel_rfl) (by simp) ?_
            refine AllReadyH.cons (o := ⟨_, _, _, _, _, _⟩) rfl (fun K hK => ?_) ?_
            ·
              have hz := own_use_c hlg HuL.out
              go_simp
              clear hz
              have hHeldN := hHeld
              refine hK.out _ _ ?_ (fun hHeld2 => ?_)
              · exact hHeldN
              clear hK K hHeldN; have hHeld := hHeld2; clear hHeld2
              try simp only [Act.put, tl1, tl2, tl3]
              refine wpAnyH_ready (rs := [17]) (by kernel_rfl) (by simp) ?_
              refine AllReadyH.cons (o := ⟨_, _, _, _, _, _⟩) rfl (fun K hK => ?_) AllReadyH.nil
              have hz := own_use_c hlg HuL.out
              go_simp
              clear hz
              have hHeldN := hHeld
              refine hK.out _ _ ?_ (fun hHeld2 => ?_)
              · exact hHeldN
              clear hK K hHeldN; have hHeld := hHeld2; clear hHeld2
              try simp only [Act.put, tl1, tl2, tl3]
              iterate 7
                refine tkHl [18, 19, 20, 21, 22, 23, 24] ?_ rfl rfl (Or.inl ⟨by rfl, ?_⟩) hHeld ?_
                rotate_left
                · (intro w _; go_simp; try (with_reducible rfl))
                try simp only [Act.put, tl1, tl2, tl3]
              exact hCut m194 ex V194 ⟨bex, hbc, hHeld⟩
            refine AllReadyH.cons (o := ⟨_, _, _, _, _, _⟩) rfl (fun K hK => ?_) AllReadyH.nil
            have hz := own_use_c hlg HuL.out
            go_simp
            clear hz
            have hHeldN := hHeld
            refine hK.out _ _ ?_ (fun hHeld2 => ?_)
            · exact hHeldN
            clear hK K hHeldN; have hHeld := hHeld2; clear hHeld2
            try simp only [Act.put, tl1, tl2, tl3]
            iterate 3
              refine tkHl [18, 19, 20] ?_ rfl rfl (Or.inl ⟨by rfl, ?_⟩) hHeld ?_
              rotate_left
              · (intro w _; go_simp; try (with_reducible rfl))
              try simp only [Act.put, tl1, tl2, tl3]
            refine wpAnyH_ready (rs := [6]) (by kernel_rfl) (by simp) ?_
            refine AllReadyH.cons (o := ⟨_, _, _, _, _, _⟩) rfl (fun K hK => ?_) AllReadyH.nil
            have hz := own_use_c hlg HuL.out
            go_simp
            clear hz
            have hHeldN := hHeld
            refine hK.out _ _ ?_ (fun hHeld2 => ?_)
            · exact hHeldN
            clear hK K hHeldN; have hHeld := hHeld2; clear hHeld2
            try simp only [Act.put, tl1, tl2, tl3]
            iterate 4
              refine tkHl [21, 22, 23, 24] ?_ rfl rfl (Or.inl ⟨by rfl, ?_⟩) hHeld ?_
              rotate_left
              · (intro w _; go_simp; try (with_reducible rfl))
              try simp only [Act.put, tl1, tl2, tl3]
            exact hCut m194 ex V194 ⟨bex, hbc, hHeld⟩
          refine AllReadyH.cons (o := ⟨_, _, _, _, _, _⟩) rfl (fun K hK => ?_) AllReadyH.nil
          have hz := own_use_c hlg HuL.out
          go_simp
          clear hz
          have hHeldN := hHeld
          refine hK.out _ _ ?_ (fun hHeld2 => ?_)
          · exact hHeldN
          clear hK K hHeldN; have hHeld := hHeld2; clear hHeld2
          try simp only [Act.put, tl1, tl2, tl3]
          iterate 2
            refine tkHl [18, 19] ?_ rfl rfl (Or.inl ⟨by rfl, ?_⟩) hHeld ?_
            rotate_left
            · (intro w _; go_simp; try (with_reducible rfl))
            try simp only [Act.put, tl1, tl2, tl3]
          refine wpAnyH_ready (rs := [6, 8]) (by kernel_rfl) (by simp) ?_
          refine AllReadyH.cons (o := ⟨_, _, _, _, _, _⟩) rfl (fun K hK => ?_) ?_
          ·
            have hz := own_use_c hlg HuL.out
            go_simp
            clear hz
            have hHeldN := hHeld
            refine hK.out _ _ ?_ (fun hHeld2 => ?_)
            · exact hHeldN
            clear hK K hHeldN; have hHeld := hHeld2; clear hHeld2
            try simp only [Act.put, tl1, tl2, tl3]
            refine wpAnyH_ready (rs := [8]) (by kernel_rfl) (by simp) ?_
            refine AllReadyH.cons (o := ⟨_, _, _, _, _, _⟩) rfl (fun K hK => ?_) AllReadyH.nil
            go_simp
            refine (at_any _ _ _ bys _ _ Hnb.out H32.out rby Hnb2.out (by omega) (by omega)).mono ?_
            rintro e V194 ⟨m194, rfl, hm194, hb⟩
            have nz194 : ¬ days * 1440 - t + 1 = 0 := by omega
            have fmm194 : IntKind.i64.wrap (m194 : Int) = m194 := wrapI (by omega)
            obtain ⟨ex, hex⟩ : ∃ ex, ex = (m194 : Int) % (days * 1440 - t + 1) := ⟨_, rfl⟩
            have tex : Int.tmod (m194 : Int) (days * 1440 - t + 1) = ex := by rw [Int.tmod_eq_emod_of_nonneg (by omega), hex]
            have bex : 0 ≤ ex ∧ ex < days * 1440 - t + 1 := by rw [hex]; exact ⟨Int.emod_nonneg _ (by omega), Int.emod_lt_of_pos _ (by omega)⟩
            clear hex
            have fC : IntKind.i64.wrap (t + ex) = t + ex := wrapI (by omega)
            go_wp2_with fail
            have hHeldN := hHeld.trans (Kept.all _ hb)
            have rby := rby.bel hb
            have hmq := hmq.bel hb
            have x21 := x21.bel hb
            have hlg := hlg.bel hb
            have hbc := hbc.trans (hb.mono hbc.size)
            refine hK.out _ _ ?_ (fun hHeld2 => ?_)
            · exact hHeldN
            clear hK K hHeldN hb; have hHeld := hHeld2; clear hHeld2
            try simp only [Act.put, tl1, tl2, tl3]
            iterate 6
              refine tkHl [9, 20, 21, 22, 23, 24] ?_ rfl rfl (Or.inl ⟨by rfl, ?_⟩) hHeld ?_
              rotate_left
              · (intro w _; go_simp; try (with_reducible rfl))
              try simp only [Act.put, tl1, tl2, tl3]
            exact hCut m194 ex V194 ⟨bex, hbc, hHeld⟩
          refine AllReadyH.cons (o := ⟨_, _, _, _, _, _⟩) rfl (fun K hK => ?_) AllReadyH.nil
          go_simp
          refine (at_any _ _ _ bys _ _ Hnb.out H32.out rby Hnb2.out (by omega) (by omega)).mono ?_
          rintro e V194 ⟨m194, rfl, hm194, hb⟩
          have nz194 : ¬ days * 1440 - t + 1 = 0 := by omega
          have fmm194 : IntKind.i64.wrap (m194 : Int) = m194 := wrapI (by omega)
          obtain ⟨ex, hex⟩ : ∃ ex, ex = (m194 : Int) % (days * 1440 - t + 1) := ⟨_, rfl⟩
          have tex : Int.tmod (m194 : Int) (days * 1440 - t + 1) = ex := by rw [Int.tmod_eq_emod_of_nonneg (by omega), hex]
          have bex : 0 ≤ ex ∧ ex < days * 1440 - t + 1 := by rw [hex]; exact ⟨Int.emod_nonneg _ (by omega), Int.emod_lt_of_pos _ (by omega)⟩
          clear hex
          have fC : IntKind.i64.wrap (t + ex) = t + ex := wrapI (by omega)
          go_wp2_with fail
          have hHeldN := hHeld.trans (Kept.all _ hb)
          have rby := rby.bel hb
          have hmq := hmq.bel hb
          have x21 := x21.bel hb
          have hlg := hlg.bel hb
          have hbc := hbc.trans (hb.mono hbc.size)
          refine hK.out _ _ ?_ (fun hHeld2 => ?_)
          · exact hHeldN
          clear hK K hHeldN hb; have hHeld := hHeld2; clear hHeld2
          try simp only [Act.put, tl1, tl2, tl3]
          iterate 2
            refine tkHl [9, 20] ?_ rfl rfl (Or.inl ⟨by rfl, ?_⟩) hHeld ?_
            rotate_left
            · (intro w _; go_simp; try (with_reducible rfl))
            try simp only [Act.put, tl1, tl2, tl3]
          refine wpAnyH_ready (rs := [6]) (by kernel_rfl) (by simp) ?_
          refine AllReadyH.cons (o := ⟨_, _, _, _, _, _⟩) rfl (fun K hK => ?_) AllReadyH.nil
          have hz := own_use_c hlg HuL.out
          go_simp
          clear hz
          have hHeldN := hHeld
          refine hK.out _ _ ?_ (fun hHeld2 => ?_)
          · exact hHeldN
          clear hK K hHeldN; have hHeld := hHeld2; clear hHeld2
          try simp only [Act.put, tl1, tl2, tl3]
          iterate 4
            refine tkHl [21, 22, 23, 24] ?_ rfl rfl (Or.inl ⟨by rfl, ?_⟩) hHeld ?_
            rotate_left
            · (intro w _; go_simp; try (with_reducible rfl))
            try simp only [Act.put, tl1, tl2, tl3]
          exact hCut m194 ex V194 ⟨bex, hbc, hHeld⟩
        intro m194 ex Wc27_1 ⟨bex, hbN, hHeldN⟩
        have rby := rby.bel hbN
        have hmq := hmq.bel hbN
        have x21 := x21.bel hbN
        have hlg := hlg.bel hbN
        have hbc := hbc.trans (hbN.mono hbc.size); clear hHeld hbN; have hHeld := hHeldN; clear hHeldN
        refine wpAnyH_ready (rs := [25]) (by kernel_rfl) (by simp) ?_
        refine AllReadyH.cons (o := ⟨_, _, _, _, _, _⟩) rfl (fun K hK => ?_) AllReadyH.nil
        have Hlg := hide hlg
        obtain ⟨u1, u2, u3⟩ := own_use Hlg.out HuL.out HuN.out (t + ex)
        have Hu3 := hide u3
        have HkF := hide (hHeld.trans u3.2)
        clear hlg u3
        go_simp
        refine hK.out _ _ ?_ (fun _ => ?_)
        · (try dsimp only); exact hHeld.trans (Hu3.out.2)
        clear hK K hHeld
        try simp only [Act.put, tl1, tl2, tl3]
        refine wpAnyH_done (by kernel_rfl) ?_ _
        have hkF := ((Kept.all (fun b => b < w14.heap.size) Hbd15.out).trans (HkF.out.mono fun b _ hb => by omega)).below (fun b h => h) (Nat.le_refl _)
        have hmq := Hmq.out.bel hkF
        have x21 := Hx21.out.bel hkF
        have rl2 := own_rd Hu3.out.1
        obtain ⟨us2, hus2⟩ : ∃ x, x = us.set m ⟨f, s, t + ex⟩ := ⟨_, rfl⟩
        rw [← hus2] at rl2
        have Huo2 : Hid (usesOk fs.length days us2 = true) := hide (by rw [hus2]; exact uses_last Huo.out Hu.out.symm HuL.out (by omega) (by omega))
        have Hle := hide (show usLe us us2 by rw [hus2]; exact usLe_last HuL.out (by omega))
        have HuN2 : Hid (m + 1 = us2.length) := hide (by rw [hus2, List.length_set]; exact Hu.out)
        clear hus2 hkF HkF Hu3 Hmq Hx21 Hbd15
        obtain ⟨W0, HW0⟩ : ∃ W0, Hid (Wc27_1.setCell ⟨gl, m * 3 + 1 + 1, none⟩ (.int .i64 (t + ex)) = W0) := ⟨_, hide rfl⟩
        rw [HW0.out] at hmq x21 rl2 ⊢
        clear HW0
        have Hma := hide (fun i => more_all2 Hok.out (netOk_dry2 Hok.out (d := dry + dm) (by omega) hbnd.2.1) HD.out HK.out Huo.out Huo2.out Hle.out ha0 hbnd.1 bmo.1 bdm.1 i)
        have Hws4 := hide (watersS_ok Hok.out Huo2.out Hsp.out)
        have Hwn4 := hide ((waters_len2 cs fs dry (days * 1440) a b us2 us2.length).trans Hc.out.symm)
        clear Huo2 Hle
        obtain ⟨z0, z1, z2, z3⟩ := hmq.a13.c4
        obtain ⟨p0, p1⟩ := (Hxf.out.bel hmq.bl).c2
        have nX : NetAt W0 Bd Bfd nc nf D fs := ⟨own_rd hmq.od, own_rd hmq.fd, HDl.out, Hf.out, by omega, by omega⟩
        have ruX := Hru.out.bel hmq.bl
        have Hmq := hide hmq; have Hx21 := hide x21; have Hrl2 := hide rl2; have HnX := hide nX; have HruX := hide ruX
        clear hmq x21 rl2 nX ruX
        go_wp2_with fail
        refine (waters_fn _ _ _ _ _ _ _ _ _ _ _ _ _ _ _ us _ HnX.out HruX.out Hu.out (by omega)).mono ?_
        rintro e W1 ⟨v1, v2, rfl, o1, o2, hb⟩
        simp only [Hws1.out] at o1 o2 ⊢
        obtain ⟨A1, c1, rfl, r1⟩ := o1.rdn nf ((waters_len _ _ _ _ _ _ _ _).trans Hf.out.symm)
        obtain ⟨B1, d1, rfl, _⟩ := o2.rdn nc Hwn1.out
        have hmq := Hmq.out.bel hb; have x21 := Hx21.out.bel hb; have rl2 := Hrl2.out.bel hb
        have Hr1 := hide r1
        clear r1
        clear o1 o2 hb z0 z1 z2 z3 p0 p1 Hmq Hx21 Hrl2 HnX HruX
        obtain ⟨z0, z1, z2, z3⟩ := hmq.a14.c4
        obtain ⟨p0, p1⟩ := (Hxf.out.bel hmq.bl).c2
        have nX : NetAt W1 Bw Bfw nc nf cs fs := ⟨own_rd hmq.ow, own_rd hmq.fw, Hc.out, Hf.out, by omega, by omega⟩
        have ruX := Hru.out.bel hmq.bl
        have Hmq := hide hmq; have Hx21 := hide x21; have Hrl2 := hide rl2; have HnX := hide nX; have HruX := hide ruX
        clear hmq x21 rl2 nX ruX
        go_wp2_with fail
        refine (waters_fn _ _ _ _ _ _ _ _ _ _ _ _ _ _ _ us _ HnX.out HruX.out Hu.out (by omega)).mono ?_
        rintro e W2 ⟨v1, v2, rfl, o1, o2, hb⟩
        simp only [Hws2.out] at o1 o2 ⊢
        obtain ⟨A2, c2, rfl, r2⟩ := o1.rdn nf ((waters_len _ _ _ _ _ _ _ _).trans Hf.out.symm)
        obtain ⟨B2, d2, rfl, _⟩ := o2.rdn nc Hwn2.out
        have hmq := Hmq.out.bel hb; have x21 := Hx21.out.bel hb; have rl2 := Hrl2.out.bel hb
        have r1 := Hr1.out.bel hb
        have Hr1 := hide r1
        have Hr2 := hide r2
        clear r1 r2
        clear o1 o2 hb z0 z1 z2 z3 p0 p1 Hmq Hx21 Hrl2 HnX HruX
        obtain ⟨z0, z1, z2, z3⟩ := (Hxn.out.bel hmq.bl).c4
        obtain ⟨p0, p1⟩ := x21.c2
        have nX : NetAt W2 Ac Af nc nf cs fs := Hn1.out.bel hmq.bl
        have ruX := Hru.out.bel hmq.bl
        have Hmq := hide hmq; have Hx21 := hide x21; have Hrl2 := hide rl2; have HnX := hide nX; have HruX := hide ruX
        clear hmq x21 rl2 nX ruX
        go_wp2_with fail
        refine (waters_fn _ _ _ _ _ _ _ _ _ _ _ _ _ _ _ us _ HnX.out HruX.out Hu.out (by omega)).mono ?_
        rintro e W3 ⟨v1, v2, rfl, o1, o2, hb⟩
        simp only [Hws3.out] at o1 o2 ⊢
        obtain ⟨A3, c3, rfl, r3⟩ := o1.rdn nf ((waters_len _ _ _ _ _ _ _ _).trans Hf.out.symm)
        obtain ⟨B3, d3, rfl, _⟩ := o2.rdn nc Hwn3.out
        have hmq := Hmq.out.bel hb; have x21 := Hx21.out.bel hb; have rl2 := Hrl2.out.bel hb
        have r1 := Hr1.out.bel hb
        have r2 := Hr2.out.bel hb
        have Hr1 := hide r1
        have Hr2 := hide r2
        have Hr3 := hide r3
        clear r1 r2 r3
        clear o1 o2 hb z0 z1 z2 z3 p0 p1 Hmq Hx21 Hrl2 HnX HruX
        obtain ⟨z0, z1, z2, z3⟩ := (Hxn.out.bel hmq.bl).c4
        obtain ⟨p0, p1⟩ := (Hxf.out.bel hmq.bl).c2
        have nX : NetAt W3 Ac Af nc nf cs fs := Hn1.out.bel hmq.bl
        have ruX := rl2
        have Hmq := hide hmq; have Hx21 := hide x21; have Hrl2 := hide rl2; have HnX := hide nX; have HruX := hide ruX
        clear hmq x21 rl2 nX ruX
        go_wp2_with fail
        refine (waters_fn _ _ _ _ _ _ _ _ _ _ _ _ _ _ _ us2 _ HnX.out HruX.out HuN2.out (by omega)).mono ?_
        rintro e W4 ⟨v1, v2, rfl, o1, o2, hb⟩
        simp only [Hws4.out] at o1 o2 ⊢
        obtain ⟨A4, c4, rfl, r4⟩ := o1.rdn nf ((waters_len _ _ _ _ _ _ _ _).trans Hf.out.symm)
        obtain ⟨B4, d4, rfl, _⟩ := o2.rdn nc Hwn4.out
        have hmq := Hmq.out.bel hb; have x21 := Hx21.out.bel hb; have rl2 := Hrl2.out.bel hb
        have r1 := Hr1.out.bel hb
        have r2 := Hr2.out.bel hb
        have r3 := Hr3.out.bel hb
        have Hr1 := hide r1
        have Hr2 := hide r2
        have Hr3 := hide r3
        have Hr4 := hide r4
        clear r1 r2 r3 r4
        clear o1 o2 hb z0 z1 z2 z3 p0 p1 Hmq Hx21 Hrl2 HnX HruX
        obtain ⟨z0, z1, z2, z3⟩ := hmq.a15.c4
        obtain ⟨p0, p1⟩ := (Hxf.out.bel hmq.bl).c2
        have nX : NetAt W4 Bk Bfk nc nf K fs := ⟨own_rd hmq.ok, own_rd hmq.fk, HKl.out, Hf.out, by omega, by omega⟩
        have ruX := Hru.out.bel hmq.bl
        have Hmq := hide hmq; have Hx21 := hide x21; have Hrl2 := hide rl2; have HnX := hide nX; have HruX := hide ruX
        clear hmq x21 rl2 nX ruX
        go_wp2_with fail
        refine (waters_fn _ _ _ _ _ _ _ _ _ _ _ _ _ _ _ us _ HnX.out HruX.out Hu.out (by omega)).mono ?_
        rintro e W5 ⟨v1, v2, rfl, o1, o2, hb⟩
        simp only [Hws5.out] at o1 o2 ⊢
        obtain ⟨A5, c5, rfl, r5⟩ := o1.rdn nf ((waters_len _ _ _ _ _ _ _ _).trans Hf.out.symm)
        obtain ⟨B5, d5, rfl, _⟩ := o2.rdn nc Hwn5.out
        have hmq := Hmq.out.bel hb; have x21 := Hx21.out.bel hb; have rl2 := Hrl2.out.bel hb
        have r1 := Hr1.out.bel hb
        have r2 := Hr2.out.bel hb
        have r3 := Hr3.out.bel hb
        have r4 := Hr4.out.bel hb
        have Hr1 := hide r1
        have Hr2 := hide r2
        have Hr3 := hide r3
        have Hr4 := hide r4
        have Hr5 := hide r5
        clear r1 r2 r3 r4 r5
        clear o1 o2 hb z0 z1 z2 z3 p0 p1 Hmq Hx21 Hrl2 HnX HruX
        have Hmq := hide hmq
        clear hmq x21 rl2
        go_wp2_with fail
        go_loopw [313] (fun i wr => ∃ k : Nat, k ≤ nf ∧ i = .int .i64 k ∧ Below W5.heap.size W5 wr) (fun i _ => nf - (intOf i).toNat)
        case atStart => exact ⟨0, by omega, rfl, Below.refl _ _⟩
        case round => as_aux_lemma =>
          obtain ⟨k, hk, rfl, hb⟩ := hrel
          by_cases hkl : k < nf
          · have hma := Hma.out k
            obtain ⟨n0, o0, y0, z0, e0, lb0, hx0, c0_, g0_⟩ := (Hrl.out.bel (Hmq.out.bl.trans (hb.mono Hmq.out.bl.size))).sp (i := k) (by rw [waters_len]; have := Hf.out; omega)
            subst e0
            rw [atS_lo _ _ _ hx0] at hma
            clear hx0
            obtain ⟨n1, o1, y1, z1, e1, lb1, hx1, c1_, g1_⟩ := (Hr1.out.bel hb).sp (i := k) (by rw [waters_len]; have := Hf.out; omega)
            subst e1
            rw [atS_lo _ _ _ hx1] at hma
            clear hx1
            obtain ⟨n2, o2, y2, z2, e2, lb2, hx2, c2_, g2_⟩ := (Hr2.out.bel hb).sp (i := k) (by rw [waters_len]; have := Hf.out; omega)
            subst e2
            rw [atS_lo _ _ _ hx2] at hma
            clear hx2
            obtain ⟨n3, o3, y3, z3, e3, lb3, hx3, c3_, g3_⟩ := (Hr3.out.bel hb).sp (i := k) (by rw [waters_len]; have := Hf.out; omega)
            subst e3
            rw [atS_lo _ _ _ hx3] at hma
            clear hx3
            obtain ⟨n4, o4, y4, z4, e4, lb4, hx4, c4_, g4_⟩ := (Hr4.out.bel hb).sp (i := k) (by rw [waters_len]; have := Hf.out; omega)
            subst e4
            rw [atS_lo _ _ _ hx4] at hma
            clear hx4
            obtain ⟨n5, o5, y5, z5, e5, lb5, hx5, c5_, g5_⟩ := (Hr5.out.bel hb).sp (i := k) (by rw [waters_len]; have := Hf.out; omega)
            subst e5
            rw [atS_lo _ _ _ hx5] at hma
            clear hx5
            unfold moreAt at hma
            dsimp only at hma
            obtain ⟨⟨m1, m2⟩, ⟨m3, m4⟩, ⟨m5, m6⟩, ⟨m7, m8⟩, m9, m10⟩ := hma
            have i0 : (0 : Int) ≤ (k : Int) := by omega
            have i1 : (k : Int) < (nf : Int) := by omega
            obtain ⟨u3, bu3, q1⟩ := min4_ex m1 m3 m5 m7
            obtain ⟨w3_, bw3, q2⟩ := min4_ex m2 m4 m6 m8
            have e1 : decide (u3 < y0) = false := decide_eq_false (by omega)
            have e2 : decide (w3_ < z0) = false := decide_eq_false (by omega)
            have e3 : decide (y5 < y0) = false := decide_eq_false (by omega)
            have e4 : decide (z0 < z5) = false := decide_eq_false (by omega)
            clear bu3 bw3 m1 m2 m3 m4 m5 m6 m7 m8 m9 m10
            go_wp2_with fail
            refine wp_region_quiet_lit (by kernel_rfl) (by kernel_rfl) ?_
            dsimp only [List.append]
            as_aux_lemma =>
             iterate 9 go_big_quiet_step (fail)
             as_aux_lemma =>
              iterate 9 go_big_quiet_step (fail)
              as_aux_lemma =>
               iterate 9 go_big_quiet_step (fail)
               as_aux_lemma =>
                iterate 9 go_big_quiet_step (fail)
                as_aux_lemma =>
                 iterate 9 go_big_quiet_step (fail)
                 as_aux_lemma =>
                  iterate 9 go_big_quiet_step (fail)
                  as_aux_lemma =>
                   iterate 9 go_big_quiet_step (fail)
                   as_aux_lemma =>
                    iterate 9 go_big_quiet_step (fail)
                    as_aux_lemma =>
                     iterate 9 go_big_quiet_step (fail)
                     as_aux_lemma =>
                      iterate 1 go_big_quiet_step (fail)
                      refine wpQuiet_nil ?_
                      intro _ hw'
                      obtain ⟨nq, hw''⟩ := hw'
                      subst hw''
                      as_aux_lemma =>
                       go_wp2_with fail
                       exact ⟨⟨k + 1, by omega, by go_num, below_drewN hb _⟩, by simp [intOf]; omega⟩
          · obtain rfl : nf = k := by omega
            go_wp2_with fail
            go_ret
            exact ⟨rfl, hB.trans ((Hmq.out.bl.trans (hb.mono Hmq.out.bl.size)).mono hB.size)⟩
end Go.Proofs.Ythlnbgjlkliopaa
