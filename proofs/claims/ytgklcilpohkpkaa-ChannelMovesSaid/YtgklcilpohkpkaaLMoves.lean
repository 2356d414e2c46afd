/- ChannelMoves: stones that are moved as told lead the water from the one field to the other; there and back the same stones are moved: the law returns true for every net and two fields. No conditions. -/
import Derived.Test.YtgklcilpohkpkaaM1
import Derived.Test.YtgklcilpohkpkaaE2
import Derived.Test.YtgklcilpohkpkaaA3
import Derived.Test.YtgklcilpohkpkaaA4
import Derived.Test.YtgklcilpohkpkaaOpenU
import Derived.Carry
set_option linter.unusedVariables false
set_option linter.unusedSimpArgs false
namespace Go.Proofs.Ytgklcilpohkpkaa
open Go.RowKit Go.Shelf Go.WideShapes Go.ChangeShapes Go.ChangeAt
attribute [local go_sem ↓] Go.wp_at_zero Go.wp_at_succ
theorem ready_parts {cs : List Ca} {fs : List Int} {dry days a b : Int} {us : List Us} (h : readyB cs fs dry days a b us = true) : cs.length ≤ 24 ∧ fs.length ≤ 18 ∧ netOk cs fs dry days = true ∧ usesOk fs.length days us = true ∧ Sp.ok 0 13000000 ⟨a, b⟩ = true := by
  simp only [readyB, great, Bool.and_eq_true, Bool.not_eq_true', Bool.or_eq_false_iff, decide_eq_false_iff_not] at h
  obtain ⟨⟨⟨h1, h2⟩, h3⟩, h4, h5, h6⟩ := h
  exact ⟨by omega, by omega, h4, h5, h6⟩
set_option maxHeartbeats 4000000 in
set_option maxRecDepth 100000 in
theorem moves_walk (Ac Af : Option Addr) (nc cc nf cf x y : Nat) (dry days : Int) (cs : List Ca) (fs : List Int) (w : World) (hnc : nc = cs.length) (hnf : nf = fs.length) (hcs : Rd w w.heap.size Ca.cells Ac cs) (hfs : Rd w w.heap.size icell Af fs) (hx : x ≤ 255) (hy : y ≤ 255) :
    Calls Try.prog 9 #[.agg #[.slice Ac nc cc, .slice Af nf cf, .int .i64 dry, .int .i64 days], .int .u8 (x : Int), .int .u8 (y : Int)] w fun e w' => e = .returned (.bool true) ∧ Below w.heap.size w w' := by
  obtain ⟨W, HW⟩ : ∃ W, Hid (w.alloc (.cells #[.slice Ac nc cc, .slice Af nf cf, .int .i64 dry, .int .i64 days] 25) = W) := ⟨_, hide rfl⟩
  have xn : At W w.heap.size [.slice Ac nc cc, .slice Af nf cf, .int .i64 dry, .int .i64 days] := by rw [← HW.out]; exact At.new w #[.slice Ac nc cc, .slice Af nf cf, .int .i64 dry, .int .i64 days] _ _ rfl _ rfl
  have hB : Below w.heap.size w W := by rw [← HW.out]; exact below_new w _
  have rc := hcs.bel hB
  have rf := hfs.bel hB
  clear hcs hfs
  have Hc := hide hnc; have Hf := hide hnf
  clear hnc hnf
  go_enter Try.func9, Try.ntmps9
  go_wp2_with fail
  rw [HW.out]
  clear HW
  refine (alive_any _).mono ?_
  rintro e w1 ⟨rfl, hb⟩
  replace xn := xn.bel hb
  replace rc := rc.bel hb
  replace rf := rf.bel hb
  replace hB := hB.trans (hb.mono hB.size)
  clear hb
  have Hx := hide xn
  obtain ⟨rB, hrB⟩ : ∃ r, readyB cs fs dry days 0 0 [] = r := ⟨_, rfl⟩
  have Hr := hide hrB
  clear hrB
  go_wp2_with fail
  cases rB
  · refine wp_region_held_drew (S := (fun W => Below w1.heap.size w1 W)) (by kernel_rfl) (by (try dsimp only); exact (Below.refl _ _).drew) (fun hHeld => ?_)
    generalize World.drew w1 = Wd4 at hHeld ⊢
    have rc := rc.bel hHeld
    have rf := rf.bel hHeld
    have xn := xn.bel hHeld
    have hbc := Below.refl Wd4.heap.size Wd4
    refine wpAnyH_take (i := 0) (oi := ⟨_, _, _, _, _, _⟩) (v := ?_) rfl (by kernel_rfl) (by kernel_rfl) (by kernel_rfl) (fun _ _ _ h => h) (Or.inl ⟨by rfl, ?_⟩) hHeld ?_
    rotate_left
    · (intro w hSw; (try dsimp only at hSw); obtain ⟨q0, q1, q2, q3⟩ := (Hx.out.below hSw).c4; go_simp; try (with_reducible rfl))
    try simp only [Act.put, List.setIfInBounds_toArray, List.set_cons_zero, List.set_cons_succ]
    refine wpAnyH_ready (rs := [1]) (by kernel_rfl) (by simp) ?_
    refine AllReadyH.cons (o := ⟨_, _, _, _, _, _⟩) rfl (fun K hK => ?_) AllReadyH.nil
    go_simp
    refine (span_any _ _ _).mono ?_
    rintro e V33 ⟨rfl, hb⟩
    go_wp2_with fail
    have hHeldN := hHeld.trans (hb.mono hHeld.size)
    have rc := rc.bel hb
    have rf := rf.bel hb
    have xn := xn.bel hb
    have hbc := hbc.trans (hb.mono hbc.size)
    refine hK.out _ _ ?_ (fun hHeld2 => ?_)
    · exact hHeldN
    clear hK K hHeld hHeldN hb; have hHeld := hHeld2; clear hHeld2
    try simp only [Act.put, List.setIfInBounds_toArray, List.set_cons_zero, List.set_cons_succ]
    refine wpAnyH_ready (rs := [2]) (by kernel_rfl) (by simp) ?_
    refine AllReadyH.cons (o := ⟨_, _, _, _, _, _⟩) rfl (fun K hK => ?_) AllReadyH.nil
    go_simp
    refine (ready_any _ _ _ _ _ _ _ _ _ _ _ _ _ cs fs [] _ Hc.out Hf.out rc rf (Rd.nil _ _ _ _) rfl).mono ?_
    rintro e V34 ⟨rfl, hb⟩
    rw [Hr.out]
    go_wp2_with fail
    have hHeldN := hHeld.trans (hb.mono hHeld.size)
    have rc := rc.bel hb
    have rf := rf.bel hb
    have xn := xn.bel hb
    have hbc := hbc.trans (hb.mono hbc.size)
    refine hK.out _ _ ?_ (fun hHeld2 => ?_)
    · exact hHeldN
    clear hK K hHeld hHeldN hb; have hHeld := hHeld2; clear hHeld2
    try simp only [Act.put, List.setIfInBounds_toArray, List.set_cons_zero, List.set_cons_succ]
    refine wpAnyH_take (i := 3) (oi := ⟨_, _, _, _, _, _⟩) (v := ?_) rfl (by kernel_rfl) (by kernel_rfl) (by kernel_rfl) (fun _ _ _ h => h) (Or.inl ⟨by rfl, ?_⟩) hHeld ?_
    rotate_left
    · (intro w hSw; (try dsimp only at hSw); go_simp; try (with_reducible rfl))
    try simp only [Act.put, List.setIfInBounds_toArray, List.set_cons_zero, List.set_cons_succ]
    refine wpAnyH_take (i := 4) (oi := ⟨_, _, _, _, _, _⟩) (v := ?_) rfl (by kernel_rfl) (by kernel_rfl) (by kernel_rfl) (fun _ _ _ h => h) (Or.inl ⟨by rfl, ?_⟩) hHeld ?_
    rotate_left
    · (intro w hSw; (try dsimp only at hSw); go_simp; try (with_reducible rfl))
    try simp only [Act.put, List.setIfInBounds_toArray, List.set_cons_zero, List.set_cons_succ]
    refine wpAnyH_take (i := 5) (oi := ⟨_, _, _, _, _, _⟩) (v := _) rfl (by kernel_rfl) (by kernel_rfl) (by kernel_rfl) (fun _ _ _ h => h) (Or.inr ⟨by rfl, rfl⟩) hHeld ?_
    try simp only [Act.put, List.setIfInBounds_toArray, List.set_cons_zero, List.set_cons_succ]
    refine wpAnyH_take (i := 6) (oi := ⟨_, _, _, _, _, _⟩) (v := _) rfl (by kernel_rfl) (by kernel_rfl) (by kernel_rfl) (fun _ _ _ h => h) (Or.inr ⟨by rfl, rfl⟩) hHeld ?_
    try simp only [Act.put, List.setIfInBounds_toArray, List.set_cons_zero, List.set_cons_succ]
    refine wpAnyH_take (i := 7) (oi := ⟨_, _, _, _, _, _⟩) (v := _) rfl (by kernel_rfl) (by kernel_rfl) (by kernel_rfl) (fun _ _ _ h => h) (Or.inr ⟨by rfl, rfl⟩) hHeld ?_
    try simp only [Act.put, List.setIfInBounds_toArray, List.set_cons_zero, List.set_cons_succ]
    refine wpAnyH_take (i := 8) (oi := ⟨_, _, _, _, _, _⟩) (v := _) rfl (by kernel_rfl) (by kernel_rfl) (by kernel_rfl) (fun _ _ _ h => h) (Or.inr ⟨by rfl, rfl⟩) hHeld ?_
    try simp only [Act.put, List.setIfInBounds_toArray, List.set_cons_zero, List.set_cons_succ]
    refine wpAnyH_take (i := 9) (oi := ⟨_, _, _, _, _, _⟩) (v := ?_) rfl (by kernel_rfl) (by kernel_rfl) (by kernel_rfl) (fun _ _ _ h => h) (Or.inl ⟨by rfl, ?_⟩) hHeld ?_
    rotate_left
    · (intro w hSw; (try dsimp only at hSw); go_simp; try (with_reducible rfl))
    try simp only [Act.put, List.setIfInBounds_toArray, List.set_cons_zero, List.set_cons_succ]
    refine wpAnyH_done (by kernel_rfl) ?_ _
    go_wp2_with fail
    go_ret
    exact ⟨rfl, hB.trans (hHeld.mono hB.size)⟩
  refine wp_region_held_drew (S := (fun W => Below w1.heap.size w1 W)) (by kernel_rfl) (by (try dsimp only); exact (Below.refl _ _).drew) (fun hHeld => ?_)
  generalize World.drew w1 = Wd4 at hHeld ⊢
  have rc := rc.bel hHeld
  have rf := rf.bel hHeld
  have xn := xn.bel hHeld
  have hbc := Below.refl Wd4.heap.size Wd4
  refine wpAnyH_take (i := 0) (oi := ⟨_, _, _, _, _, _⟩) (v := ?_) rfl (by kernel_rfl) (by kernel_rfl) (by kernel_rfl) (fun _ _ _ h => h) (Or.inl ⟨by rfl, ?_⟩) hHeld ?_
  rotate_left
  · (intro w hSw; (try dsimp only at hSw); obtain ⟨q0, q1, q2, q3⟩ := (Hx.out.below hSw).c4; go_simp; try (with_reducible rfl))
  try simp only [Act.put, List.setIfInBounds_toArray, List.set_cons_zero, List.set_cons_succ]
  refine wpAnyH_ready (rs := [1]) (by kernel_rfl) (by simp) ?_
  refine AllReadyH.cons (o := ⟨_, _, _, _, _, _⟩) rfl (fun K hK => ?_) AllReadyH.nil
  go_simp
  refine (span_any _ _ _).mono ?_
  rintro e V33 ⟨rfl, hb⟩
  go_wp2_with fail
  have hHeldN := hHeld.trans (hb.mono hHeld.size)
  have rc := rc.bel hb
  have rf := rf.bel hb
  have xn := xn.bel hb
  have hbc := hbc.trans (hb.mono hbc.size)
  refine hK.out _ _ ?_ (fun hHeld2 => ?_)
  · exact hHeldN
  clear hK K hHeld hHeldN hb; have hHeld := hHeld2; clear hHeld2
  try simp only [Act.put, List.setIfInBounds_toArray, List.set_cons_zero, List.set_cons_succ]
  refine wpAnyH_ready (rs := [2]) (by kernel_rfl) (by simp) ?_
  refine AllReadyH.cons (o := ⟨_, _, _, _, _, _⟩) rfl (fun K hK => ?_) AllReadyH.nil
  go_simp
  refine (ready_any _ _ _ _ _ _ _ _ _ _ _ _ _ cs fs [] _ Hc.out Hf.out rc rf (Rd.nil _ _ _ _) rfl).mono ?_
  rintro e V34 ⟨rfl, hb⟩
  rw [Hr.out]
  go_wp2_with fail
  have hHeldN := hHeld.trans (hb.mono hHeld.size)
  have rc := rc.bel hb
  have rf := rf.bel hb
  have xn := xn.bel hb
  have hbc := hbc.trans (hb.mono hbc.size)
  refine hK.out _ _ ?_ (fun hHeld2 => ?_)
  · exact hHeldN
  clear hK K hHeld hHeldN hb; have hHeld := hHeld2; clear hHeld2
  try simp only [Act.put, List.setIfInBounds_toArray, List.set_cons_zero, List.set_cons_succ]
  refine wpAnyH_take (i := 3) (oi := ⟨_, _, _, _, _, _⟩) (v := ?_) rfl (by kernel_rfl) (by kernel_rfl) (by kernel_rfl) (fun _ _ _ h => h) (Or.inl ⟨by rfl, ?_⟩) hHeld ?_
  rotate_left
  · (intro w hSw; (try dsimp only at hSw); go_simp; try (with_reducible rfl))
  try simp only [Act.put, List.setIfInBounds_toArray, List.set_cons_zero, List.set_cons_succ]
  refine wpAnyH_take (i := 4) (oi := ⟨_, _, _, _, _, _⟩) (v := ?_) rfl (by kernel_rfl) (by kernel_rfl) (by kernel_rfl) (fun _ _ _ h => h) (Or.inl ⟨by rfl, ?_⟩) hHeld ?_
  rotate_left
  · (intro w hSw; (try dsimp only at hSw); go_simp; try (with_reducible rfl))
  try simp only [Act.put, List.setIfInBounds_toArray, List.set_cons_zero, List.set_cons_succ]
  refine wpAnyH_take (i := 5) (oi := ⟨_, _, _, _, _, _⟩) (v := ?_) rfl (by kernel_rfl) (by kernel_rfl) (by kernel_rfl) (fun _ _ _ h => h) (Or.inl ⟨by rfl, ?_⟩) hHeld ?_
  rotate_left
  · (intro w hSw; (try dsimp only at hSw); go_simp; try (with_reducible rfl))
  try simp only [Act.put, List.setIfInBounds_toArray, List.set_cons_zero, List.set_cons_succ]
  refine wpAnyH_take (i := 6) (oi := ⟨_, _, _, _, _, _⟩) (v := ?_) rfl (by kernel_rfl) (by kernel_rfl) (by kernel_rfl) (fun _ _ _ h => h) (Or.inl ⟨by rfl, ?_⟩) hHeld ?_
  rotate_left
  · (intro w hSw; (try dsimp only at hSw); obtain ⟨q0, q1, q2, q3⟩ := (Hx.out.below hSw).c4; go_simp; try (with_reducible rfl))
  try simp only [Act.put, List.setIfInBounds_toArray, List.set_cons_zero, List.set_cons_succ]
  refine wpAnyH_take (i := 7) (oi := ⟨_, _, _, _, _, _⟩) (v := ?_) rfl (by kernel_rfl) (by kernel_rfl) (by kernel_rfl) (fun _ _ _ h => h) (Or.inl ⟨by rfl, ?_⟩) hHeld ?_
  rotate_left
  · (intro w hSw; (try dsimp only at hSw); go_simp; try (with_reducible rfl))
  try simp only [Act.put, List.setIfInBounds_toArray, List.set_cons_zero, List.set_cons_succ]
  refine wpAnyH_take (i := 8) (oi := ⟨_, _, _, _, _, _⟩) (v := ?_) rfl (by kernel_rfl) (by kernel_rfl) (by kernel_rfl) (fun _ _ _ h => h) (Or.inl ⟨by rfl, ?_⟩) hHeld ?_
  rotate_left
  · (intro w hSw; (try dsimp only at hSw); go_simp; try (with_reducible rfl))
  try simp only [Act.put, List.setIfInBounds_toArray, List.set_cons_zero, List.set_cons_succ]
  refine wpAnyH_take (i := 9) (oi := ⟨_, _, _, _, _, _⟩) (v := ?_) rfl (by kernel_rfl) (by kernel_rfl) (by kernel_rfl) (fun _ _ _ h => h) (Or.inl ⟨by rfl, ?_⟩) hHeld ?_
  rotate_left
  · (intro w hSw; (try dsimp only at hSw); go_simp; try (with_reducible rfl))
  try simp only [Act.put, List.setIfInBounds_toArray, List.set_cons_zero, List.set_cons_succ]
  refine wpAnyH_done (by kernel_rfl) ?_ _
  replace hB := hB.trans (hHeld.mono hB.size)
  clear hbc hHeld Hx
  obtain ⟨hcl, hfl, hok, _, _⟩ := ready_parts Hr.out
  by_cases hz : nf = 0
  · subst hz
    go_wp2_with fail
    go_ret
    exact ⟨rfl, hB⟩
  have nz : ((nf : Int) == 0) = false := by simpa using hz
  have ka : x % nf < nf := Nat.mod_lt _ (by omega)
  have kb : y % nf < nf := Nat.mod_lt _ (by omega)
  obtain ⟨a, ha⟩ : ∃ a, a = x % nf := ⟨_, rfl⟩
  obtain ⟨b, hb⟩ : ∃ b, b = y % nf := ⟨_, rfl⟩
  have ta : Int.tmod (x : Int) (nf : Int) = (a : Int) := by rw [Int.tmod_eq_emod_of_nonneg (by omega), ha]; exact (Int.natCast_emod x nf).symm
  have tb : Int.tmod (y : Int) (nf : Int) = (b : Int) := by rw [Int.tmod_eq_emod_of_nonneg (by omega), hb]; exact (Int.natCast_emod y nf).symm
  have fx : IntKind.i64.wrap (x : Int) = x := wrapI (by omega)
  have fy : IntKind.i64.wrap (y : Int) = y := wrapI (by omega)
  rw [← ha] at ka
  rw [← hb] at kb
  clear ha hb
  have n1 : NetAt V34 Ac Af nc nf cs fs := ⟨rc, rf, Hc.out, Hf.out, by have := Hc.out; omega, by have := Hf.out; omega⟩
  have hnf18 : nf ≤ 18 := by have := Hf.out; omega
  have Hok := hide hok; have Hx := hide xn
  clear rc rf hcl hfl hok
  go_wp2_with fail
  refine wp_region_held_drew (S := (fun W => Below V34.heap.size V34 W)) (by kernel_rfl) (by (try dsimp only); exact (Below.refl _ _).drew) (fun hHeld => ?_)
  generalize World.drew V34 = Wd6 at hHeld ⊢
  have xn := xn.bel hHeld
  have n1 := n1.bel hHeld
  have hbc := Below.refl Wd6.heap.size Wd6
  refine wpAnyH_take (i := 0) (oi := ⟨_, _, _, _, _, _⟩) (v := ?_) rfl (by kernel_rfl) (by kernel_rfl) (by kernel_rfl) (fun _ _ _ h => h) (Or.inl ⟨by rfl, ?_⟩) hHeld ?_
  rotate_left
  · (intro w hSw; (try dsimp only at hSw); go_simp; try (with_reducible rfl))
  try simp only [Act.put, List.setIfInBounds_toArray, List.set_cons_zero, List.set_cons_succ]
  refine wpAnyH_take (i := 1) (oi := ⟨_, _, _, _, _, _⟩) (v := ?_) rfl (by kernel_rfl) (by kernel_rfl) (by kernel_rfl) (fun _ _ _ h => h) (Or.inl ⟨by rfl, ?_⟩) hHeld ?_
  rotate_left
  · (intro w hSw; (try dsimp only at hSw); go_simp; try (with_reducible rfl))
  try simp only [Act.put, List.setIfInBounds_toArray, List.set_cons_zero, List.set_cons_succ]
  refine wpAnyH_take (i := 2) (oi := ⟨_, _, _, _, _, _⟩) (v := ?_) rfl (by kernel_rfl) (by kernel_rfl) (by kernel_rfl) (fun _ _ _ h => h) (Or.inl ⟨by rfl, ?_⟩) hHeld ?_
  rotate_left
  · (intro w hSw; (try dsimp only at hSw); go_simp; try (with_reducible rfl))
  try simp only [Act.put, List.setIfInBounds_toArray, List.set_cons_zero, List.set_cons_succ]
  refine wpAnyH_take (i := 3) (oi := ⟨_, _, _, _, _, _⟩) (v := ?_) rfl (by kernel_rfl) (by kernel_rfl) (by kernel_rfl) (fun _ _ _ h => h) (Or.inl ⟨by rfl, ?_⟩) hHeld ?_
  rotate_left
  · (intro w hSw; (try dsimp only at hSw); obtain ⟨q0, q1, q2, q3⟩ := (Hx.out.below hSw).c4; go_simp; try (with_reducible rfl))
  try simp only [Act.put, List.setIfInBounds_toArray, List.set_cons_zero, List.set_cons_succ]
  refine wpAnyH_take (i := 4) (oi := ⟨_, _, _, _, _, _⟩) (v := ?_) rfl (by kernel_rfl) (by kernel_rfl) (by kernel_rfl) (fun _ _ _ h => h) (Or.inl ⟨by rfl, ?_⟩) hHeld ?_
  rotate_left
  · (intro w hSw; (try dsimp only at hSw); go_simp; try (with_reducible rfl))
  try simp only [Act.put, List.setIfInBounds_toArray, List.set_cons_zero, List.set_cons_succ]
  refine wpAnyH_take (i := 5) (oi := ⟨_, _, _, _, _, _⟩) (v := ?_) rfl (by kernel_rfl) (by kernel_rfl) (by kernel_rfl) (fun _ _ _ h => h) (Or.inl ⟨by rfl, ?_⟩) hHeld ?_
  rotate_left
  · (intro w hSw; (try dsimp only at hSw); go_simp; try (with_reducible rfl))
  try simp only [Act.put, List.setIfInBounds_toArray, List.set_cons_zero, List.set_cons_succ]
  refine wpAnyH_take (i := 6) (oi := ⟨_, _, _, _, _, _⟩) (v := ?_) rfl (by kernel_rfl) (by kernel_rfl) (by kernel_rfl) (fun _ _ _ h => h) (Or.inl ⟨by rfl, ?_⟩) hHeld ?_
  rotate_left
  · (intro w hSw; (try dsimp only at hSw); go_simp; try (with_reducible rfl))
  try simp only [Act.put, List.setIfInBounds_toArray, List.set_cons_zero, List.set_cons_succ]
  refine wpAnyH_take (i := 7) (oi := ⟨_, _, _, _, _, _⟩) (v := ?_) rfl (by kernel_rfl) (by kernel_rfl) (by kernel_rfl) (fun _ _ _ h => h) (Or.inl ⟨by rfl, ?_⟩) hHeld ?_
  rotate_left
  · (intro w hSw; (try dsimp only at hSw); go_simp; try (with_reducible rfl))
  try simp only [Act.put, List.setIfInBounds_toArray, List.set_cons_zero, List.set_cons_succ]
  refine wpAnyH_take (i := 8) (oi := ⟨_, _, _, _, _, _⟩) (v := ?_) rfl (by kernel_rfl) (by kernel_rfl) (by kernel_rfl) (fun _ _ _ h => h) (Or.inl ⟨by rfl, ?_⟩) hHeld ?_
  rotate_left
  · (intro w hSw; (try dsimp only at hSw); go_simp; try (with_reducible rfl))
  try simp only [Act.put, List.setIfInBounds_toArray, List.set_cons_zero, List.set_cons_succ]
  refine wpAnyH_take (i := 9) (oi := ⟨_, _, _, _, _, _⟩) (v := ?_) rfl (by kernel_rfl) (by kernel_rfl) (by kernel_rfl) (fun _ _ _ h => h) (Or.inl ⟨by rfl, ?_⟩) hHeld ?_
  rotate_left
  · (intro w hSw; (try dsimp only at hSw); obtain ⟨q0, q1, q2, q3⟩ := (Hx.out.below hSw).c4; go_simp; try (with_reducible rfl))
  try simp only [Act.put, List.setIfInBounds_toArray, List.set_cons_zero, List.set_cons_succ]
  refine wpAnyH_take (i := 10) (oi := ⟨_, _, _, _, _, _⟩) (v := ?_) rfl (by kernel_rfl) (by kernel_rfl) (by kernel_rfl) (fun _ _ _ h => h) (Or.inl ⟨by rfl, ?_⟩) hHeld ?_
  rotate_left
  · (intro w hSw; (try dsimp only at hSw); go_simp; try (with_reducible rfl))
  try simp only [Act.put, List.setIfInBounds_toArray, List.set_cons_zero, List.set_cons_succ]
  refine wpAnyH_take (i := 11) (oi := ⟨_, _, _, _, _, _⟩) (v := ?_) rfl (by kernel_rfl) (by kernel_rfl) (by kernel_rfl) (fun _ _ _ h => h) (Or.inl ⟨by rfl, ?_⟩) hHeld ?_
  rotate_left
  · (intro w hSw; (try dsimp only at hSw); go_simp; try (with_reducible rfl))
  try simp only [Act.put, List.setIfInBounds_toArray, List.set_cons_zero, List.set_cons_succ]
  refine wpAnyH_take (i := 12) (oi := ⟨_, _, _, _, _, _⟩) (v := ?_) rfl (by kernel_rfl) (by kernel_rfl) (by kernel_rfl) (fun _ _ _ h => h) (Or.inl ⟨by rfl, ?_⟩) hHeld ?_
  rotate_left
  · (intro w hSw; (try dsimp only at hSw); go_simp; try (with_reducible rfl))
  try simp only [Act.put, List.setIfInBounds_toArray, List.set_cons_zero, List.set_cons_succ]
  refine wpAnyH_take (i := 13) (oi := ⟨_, _, _, _, _, _⟩) (v := ?_) rfl (by kernel_rfl) (by kernel_rfl) (by kernel_rfl) (fun _ _ _ h => h) (Or.inl ⟨by rfl, ?_⟩) hHeld ?_
  rotate_left
  · (intro w hSw; (try dsimp only at hSw); go_simp; try (with_reducible rfl))
  try simp only [Act.put, List.setIfInBounds_toArray, List.set_cons_zero, List.set_cons_succ]
  refine wpAnyH_done (by kernel_rfl) ?_ _
  replace hB := hB.trans (hHeld.mono hB.size)
  clear hbc hHeld Hx
  clear fx fy ta tb nz hz
  have ka2 : (a : Int) < fs.length := by have := Hf.out; omega
  have kb2 : (b : Int) < fs.length := by have := Hf.out; omega
  have Hm1 := hide (movesS_ok Hok.out (a := (a : Int)) (b := (b : Int)) (by omega) ka2 (by omega) kb2)
  have Hm2 := hide (movesS_ok Hok.out (a := (b : Int)) (b := (a : Int)) (by omega) kb2 (by omega) ka2)
  have Hp1 := hide (pathS_ok Hok.out (a := (a : Int)) (by omega) ka2)
  have Hp2 := hide (pathS_ok Hok.out (a := (b : Int)) (by omega) kb2)
  have sp := pathK_sorted (fs := fs) (netOk_frm Hok.out) (a : Int)
  have sq := pathK_sorted (fs := fs) (netOk_frm Hok.out) (b : Int)
  have lp := pathK_len cs fs Hok.out (k := (a : Int)) (by omega) ka2
  have lq := pathK_len cs fs Hok.out (k := (b : Int)) (by omega) kb2
  have op : ∀ c ∈ pathK cs fs a, okI c := fun c hc => pathK_okI Hok.out (by omega) ka2 hc
  have oq : ∀ c ∈ pathK cs fs b, okI c := fun c hc => pathK_okI Hok.out (by omega) kb2 hc
  obtain ⟨p, hp⟩ : ∃ p, p = pathK cs fs (a : Int) := ⟨_, rfl⟩
  obtain ⟨q, hq⟩ : ∃ q, q = pathK cs fs (b : Int) := ⟨_, rfl⟩
  rw [← hp] at sp lp op
  rw [← hq] at sq lq oq
  rw [← hp, ← hq] at Hm1 Hm2
  rw [← hp] at Hp1
  rw [← hq] at Hp2
  have hcnt := count_moves sp sq
  have ls := withoutL_len p q
  have lo := withoutL_len q p
  have oS : ∀ c ∈ withoutL p q, okI c := fun c hc => op c (withoutL_mem.1 hc).1
  have oO : ∀ c ∈ withoutL q p, okI c := fun c hc => oq c (withoutL_mem.1 hc).1
  obtain ⟨np, hnp⟩ : ∃ np, np = p.length := ⟨_, rfl⟩
  obtain ⟨nq, hnq⟩ : ∃ nq, nq = q.length := ⟨_, rfl⟩
  obtain ⟨ns, hns⟩ : ∃ ns, ns = (withoutL p q).length := ⟨_, rfl⟩
  obtain ⟨no, hno⟩ : ∃ no, no = (withoutL q p).length := ⟨_, rfl⟩
  rw [← hnp, ← hns] at ls
  rw [← hnq, ← hno] at lo
  rw [← hnp, ← hnq, ← hns, ← hno] at hcnt
  rw [← hnp] at lp
  rw [← hnq] at lq
  have Hp := hide hp; have Hq := hide hq; have Hnp := hide hnp; have Hnq := hide hnq; have Hns := hide hns; have Hno := hide hno
  have Hsp := hide sp; have Hsq := hide sq; have Hop := hide op; have Hoq := hide oq; have HoS := hide oS; have HoO := hide oO; have Hcnt := hide hcnt
  obtain ⟨q0, q1, q2, q3⟩ := xn.c4
  clear hp hq hnp hnq hns hno sp sq op oq oS oO hcnt
  go_wp2_with fail
  refine (moves_fn _ _ _ _ _ _ _ _ _ _ _ _ _ n1).mono ?_
  rintro e w3 ⟨v, u, rfl, o1, o2, hb⟩
  clear q0 q1 q2 q3
  simp only [Hm1.out] at o1 o2 ⊢
  obtain ⟨As, c1, rfl, rS⟩ := o1.rdn ns Hns.out.symm
  obtain ⟨Ao, c2, rfl, rO⟩ := o2.rdn no Hno.out.symm
  clear o1 o2
  replace xn := xn.bel hb
  replace n1 := n1.bel hb
  replace hB := hB.trans (hb.mono hB.size)
  clear hb
  obtain ⟨q0, q1, q2, q3⟩ := xn.c4
  go_wp2_with fail
  refine (moves_fn _ _ _ _ _ _ _ _ _ _ _ _ _ n1).mono ?_
  rintro e w4 ⟨v, u, rfl, o1, o2, hb⟩
  clear q0 q1 q2 q3
  simp only [Hm2.out] at o1 o2 ⊢
  obtain ⟨Ab, c3, rfl, rB⟩ := o1.rdn no Hno.out.symm
  obtain ⟨Af', c4, rfl, rF⟩ := o2.rdn ns Hns.out.symm
  clear o1 o2
  replace xn := xn.bel hb
  replace n1 := n1.bel hb
  replace rS := rS.bel hb
  replace rO := rO.bel hb
  replace hB := hB.trans (hb.mono hB.size)
  clear hb
  obtain ⟨q0, q1, q2, q3⟩ := xn.c4
  go_wp2_with fail
  refine (path_fn _ _ _ _ _ _ _ _ _ _ _ _ n1).mono ?_
  rintro e w5 ⟨v, rfl, o1, hb⟩
  clear q0 q1 q2 q3
  simp only [Hp1.out] at o1 ⊢
  obtain ⟨Ap, c5, rfl, rP⟩ := o1.rdn np Hnp.out.symm
  clear o1
  replace xn := xn.bel hb
  replace n1 := n1.bel hb
  replace rS := rS.bel hb
  replace rO := rO.bel hb
  replace rB := rB.bel hb
  replace rF := rF.bel hb
  replace hB := hB.trans (hb.mono hB.size)
  clear hb
  obtain ⟨q0, q1, q2, q3⟩ := xn.c4
  go_wp2_with fail
  refine (path_fn _ _ _ _ _ _ _ _ _ _ _ _ n1).mono ?_
  rintro e w6 ⟨v, rfl, o1, hb⟩
  clear q0 q1 q2 q3
  simp only [Hp2.out] at o1 ⊢
  obtain ⟨Aq, c6, rfl, rQ⟩ := o1.rdn nq Hnq.out.symm
  clear o1
  replace xn := xn.bel hb
  replace n1 := n1.bel hb
  replace rS := rS.bel hb
  replace rO := rO.bel hb
  replace rB := rB.bel hb
  replace rF := rF.bel hb
  replace rP := rP.bel hb
  replace hB := hB.trans (hb.mono hB.size)
  clear hb
  obtain ⟨q0, q1, q2, q3⟩ := xn.c4
  go_wp2_with fail
  refine (sInts _ _ (withoutL p q) _ _ _ _ _ rS rF Hns.out Hns.out (by have := Hns.out; omega)).mono ?_
  rintro e w7 ⟨rfl, hb⟩
  clear q0 q1 q2 q3
  replace xn := xn.bel hb
  replace n1 := n1.bel hb
  replace rS := rS.bel hb
  replace rO := rO.bel hb
  replace rB := rB.bel hb
  replace rF := rF.bel hb
  replace rP := rP.bel hb
  replace rQ := rQ.bel hb
  replace hB := hB.trans (hb.mono hB.size)
  clear hb
  obtain ⟨q0, q1, q2, q3⟩ := xn.c4
  go_wp2_with fail
  refine (sInts _ _ (withoutL q p) _ _ _ _ _ rO rB Hno.out Hno.out (by have := Hno.out; omega)).mono ?_
  rintro e w8 ⟨rfl, hb⟩
  clear q0 q1 q2 q3
  replace xn := xn.bel hb
  replace n1 := n1.bel hb
  replace rS := rS.bel hb
  replace rO := rO.bel hb
  replace rB := rB.bel hb
  replace rF := rF.bel hb
  replace rP := rP.bel hb
  replace rQ := rQ.bel hb
  replace hB := hB.trans (hb.mono hB.size)
  clear hb
  obtain ⟨q0, q1, q2, q3⟩ := xn.c4
  go_wp2_with fail
  refine (along_any _ _ _ _ _ _ _ _ _ _ _ _ n1 Hok.out (by omega) (by omega)).mono ?_
  rintro e w9 ⟨v, rfl, o1, hb⟩
  clear q0 q1 q2 q3
  rw [← Hp.out] at o1
  obtain ⟨A1, d1, rfl, r1⟩ := o1.rdn np Hnp.out.symm
  clear o1
  replace xn := xn.bel hb
  replace n1 := n1.bel hb
  replace rS := rS.bel hb
  replace rO := rO.bel hb
  replace rB := rB.bel hb
  replace rF := rF.bel hb
  replace rP := rP.bel hb
  replace rQ := rQ.bel hb
  replace hB := hB.trans (hb.mono hB.size)
  clear hb
  obtain ⟨q0, q1, q2, q3⟩ := xn.c4
  go_wp2_with fail
  refine (sInts _ _ p _ _ _ _ _ rP r1 Hnp.out Hnp.out (by have := Hnp.out; omega)).mono ?_
  rintro e w10 ⟨rfl, hb⟩
  clear q0 q1 q2 q3
  replace xn := xn.bel hb
  replace n1 := n1.bel hb
  replace rS := rS.bel hb
  replace rO := rO.bel hb
  replace rB := rB.bel hb
  replace rF := rF.bel hb
  replace rP := rP.bel hb
  replace rQ := rQ.bel hb
  replace hB := hB.trans (hb.mono hB.size)
  clear hb
  obtain ⟨q0, q1, q2, q3⟩ := xn.c4
  go_wp2_with fail
  refine (along_any _ _ _ _ _ _ _ _ _ _ _ _ n1 Hok.out (by omega) (by omega)).mono ?_
  rintro e w11 ⟨v, rfl, o1, hb⟩
  clear q0 q1 q2 q3
  rw [← Hq.out] at o1
  obtain ⟨A2, d2, rfl, r2⟩ := o1.rdn nq Hnq.out.symm
  clear o1
  replace xn := xn.bel hb
  replace n1 := n1.bel hb
  replace rS := rS.bel hb
  replace rO := rO.bel hb
  replace rB := rB.bel hb
  replace rF := rF.bel hb
  replace rP := rP.bel hb
  replace rQ := rQ.bel hb
  replace hB := hB.trans (hb.mono hB.size)
  clear hb
  obtain ⟨q0, q1, q2, q3⟩ := xn.c4
  go_wp2_with fail
  refine (sInts _ _ q _ _ _ _ _ rQ r2 Hnq.out Hnq.out (by have := Hnq.out; omega)).mono ?_
  rintro e w12 ⟨rfl, hb⟩
  clear q0 q1 q2 q3
  replace rS := rS.bel hb
  replace rO := rO.bel hb
  replace rP := rP.bel hb
  replace rQ := rQ.bel hb
  replace hB := hB.trans (hb.mono hB.size)
  clear hb xn n1 rB rF r1 r2 ka kb
  have hmm := @run_makeMap Try.prog
  have Hm := hide (Mp.made w12 Try.prog 3 4 ldB)
  have hbm0 := below_new w12 (.map #[] 0)
  go_wp2_with fail
  clear hmm
  obtain ⟨bm, hbm⟩ : ∃ bm, bm = w12.heap.size := ⟨_, rfl⟩
  rw [← hbm] at Hm ⊢
  have Hbm := hide hbm
  clear hbm
  obtain ⟨wo, HW1⟩ : ∃ wo, Hid (w12.alloc (.map #[] 0) = wo) := ⟨_, hide rfl⟩
  rw [HW1.out] at Hm hbm0 ⊢
  have HrS := hide rS; have HrO := hide rO; have HrP := hide rP; have HrQ := hide rQ
  clear rS rO rP rQ HW1
  go_loopw [128] (fun i wq => ∃ (k s : Nat) (f : Int → Option Bool), k ≤ np ∧ i = .int .i64 k ∧ Below w12.heap.size w12 wq ∧ Hid (SetTo p k f s) ∧ Hid (Mp Try.prog 3 4 ldB wq bm k f s)) (fun i _ => np - (intOf i).toNat)
  case atStart => exact ⟨0, 0, _, by omega, rfl, hbm0, hide (SetTo.zero p), Hm⟩
  case round =>
    clear hbm0 Hm
    obtain ⟨k, s, f, hk, rfl, hb, hset, hmp⟩ := hrel
    by_cases hlt : k < np
    · obtain ⟨b1, off1, c, rfl, hb1, hxc, c0⟩ := (HrP.out.bel hb).int (i := k) (by have := Hnp.out; omega)
      have Hok1 := hide (Hop.out c (List.mem_of_getElem? hxc))
      have Hxc := hide hxc
      clear hxc
      go_wp2_with (at_mapUpdate; refine wpList_mapWrite rfl _ _ _ rfl mapB hmp.out (by omega) rfl c rfl Hok1.out true rfl trivial ?_; intro w5 hmp5 hg5)
      have hbb := Hbm.out
      exact ⟨⟨k + 1, _, _, by omega, by go_num, hb.grown hg5 hb.size (fun g hg => by injection hg with hg; omega), hide (hset.out.snoc Hxc.out), hide hmp5⟩, by simp [intOf]; omega⟩
    · obtain rfl : k = np := by omega
      have hpt : p.take k = p := List.take_of_length_le (by have := Hnp.out; omega)
      have hs : s = k := by
        refine hset.out.eq.2 ?_
        rw [hpt]
        exact Hsp.out.imp (fun h => by omega)
      subst hs
      have hm2 : Mp Try.prog 3 4 ldB wr bm s (keepF p [] []) s := hmp.out.congr fun j => by rw [keepF_start, hset.out.mem j, hpt]
      have Hm2 := hide hm2
      clear hm2 hpt hmp hset
      go_wp2_with fail
      go_loopw [137] (fun i wq => ∃ k : Nat, k ≤ ns ∧ i = .int .i64 k ∧ Below w12.heap.size w12 wq ∧ Hid (Mp Try.prog 3 4 ldB wq bm s (keepF p ((withoutL p q).take k) []) (s - k))) (fun i _ => ns - (intOf i).toNat)
      case atStart => exact ⟨0, by omega, rfl, hb, Hm2⟩
      case round =>
        clear Hm2 hb
        obtain ⟨k, hk, rfl, hb, hmp⟩ := hrel
        by_cases hlt : k < ns
        · obtain ⟨b1, off1, c, hA1, hb1, hxc, c0⟩ := (HrS.out.bel hb).int (i := k) (by have := Hns.out; omega)
          have Hok1 := hide (HoS.out c (List.mem_of_getElem? hxc))
          have Hthere := hide (show (keepF p ((withoutL p q).take k) [] c).getD false = true by rw [shut_there Hsp.out hxc]; rfl)
          have hstep : Mp Try.prog 3 4 ldB wr bm s (keepF p ((withoutL p q).take k) []) (s - k) := hmp.out
          have hnext : ∀ w6, Mp Try.prog 3 4 ldB w6 bm s (upd (keepF p ((withoutL p q).take k) []) c none) (if (keepF p ((withoutL p q).take k) [] c).isSome then s - k - 1 else s - k) → Mp Try.prog 3 4 ldB w6 bm s (keepF p ((withoutL p q).take (k + 1)) []) (s - (k + 1)) := fun w6 h => by
            rw [shut_there Hsp.out hxc] at h
            rw [take_snoc hxc]
            exact h.congr fun j => keepF_shut ..
          have Hnext := hide hnext
          clear hnext hstep
          cases k with
          | zero =>
            subst hA1
            rw [Nat.add_zero] at c0
            clear hxc
            go_wp2_with (first | (at_lookup; refine wpList_mapRead rfl _ _ rfl mapB hmp.out rfl c rfl Hok1.out ?_; rw [Hthere.out]) | (at_delete; refine wpList_mapDrop rfl _ _ rfl mapB hmp.out rfl c rfl Hok1.out ?_; intro w6 hmp6 hg6))
            have hbb := Hbm.out
            exact ⟨⟨1, by omega, by first | rfl | go_num, hb.grown hg6 hb.size (fun g hg => by injection hg with hg; omega), hide (Hnext.out w6 hmp6)⟩, by simp [intOf]; omega⟩
          | succ k' =>
            obtain ⟨b2, off2, c', hA2, hb2, hxc', e0⟩ := (HrS.out.bel hb).int (i := k') (by have := Hns.out; omega)
            rw [hA1] at hA2
            injection hA2 with hA2
            injection hA2 with h1 h2
            subst h1 h2 hA1
            have hlt2 := sorted_at (withoutL_sorted Hsp.out) (Nat.lt_succ_self k') hxc' hxc
            have Hl2 := hide hlt2
            clear hxc hxc'
            have j0 : (0 : Int) ≤ (k' : Int) := by omega
            have j1 : (k' : Int) < (ns : Int) := by omega
            have j2 : (k' : Int) + 1 < (ns : Int) := by omega
            have j3 : (0 : Int) ≤ (k' : Int) + 1 := by omega
            go_wp2_with (first | (at_lookup; refine wpList_mapRead rfl _ _ rfl mapB hmp.out rfl c rfl Hok1.out ?_; rw [Hthere.out]) | (at_delete; refine wpList_mapDrop rfl _ _ rfl mapB hmp.out rfl c rfl Hok1.out ?_; intro w6 hmp6 hg6))
            have hbb := Hbm.out
            exact ⟨⟨k' + 1 + 1, by omega, by go_num, hb.grown hg6 hb.size (fun g hg => by injection hg with hg; omega), hide (Hnext.out w6 hmp6)⟩, by simp [intOf]; omega⟩
        · obtain rfl : k = ns := by omega
          have hpt : (withoutL p q).take k = withoutL p q := List.take_of_length_le (by have := Hns.out; omega)
          rw [hpt] at hmp
          clear hpt
          have Hm3 := hmp
          clear hmp
          go_wp2_with fail
          go_loopw [164] (fun i wq => ∃ m : Nat, m ≤ no ∧ i = .int .i64 m ∧ Below w12.heap.size w12 wq ∧ Hid (Mp Try.prog 3 4 ldB wq bm (s + m) (keepF p (withoutL p q) ((withoutL q p).take m)) (s - k + m))) (fun i _ => no - (intOf i).toNat)
          case atStart => exact ⟨0, by omega, rfl, hb, Hm3⟩
          case round =>
            clear Hm3 hb
            obtain ⟨m, hm, rfl, hb, hmp⟩ := hrel
            by_cases hlt : m < no
            · obtain ⟨b1, off1, c, hA1, hb1, hxc, c0⟩ := (HrO.out.bel hb).int (i := m) (by have := Hno.out; omega)
              have Hok1 := hide (HoO.out c (List.mem_of_getElem? hxc))
              have hno := open_new Hsq.out (withoutL p q) hxc
              have Hnew := hide (show (keepF p (withoutL p q) ((withoutL q p).take m) c).getD false = false by rw [hno]; rfl)
              have hnext : ∀ w6, Mp Try.prog 3 4 ldB w6 bm (s + m + 1) (upd (keepF p (withoutL p q) ((withoutL q p).take m)) c (some true)) (if (keepF p (withoutL p q) ((withoutL q p).take m) c).isSome then s - k + m else s - k + m + 1) → Mp Try.prog 3 4 ldB w6 bm (s + (m + 1)) (keepF p (withoutL p q) ((withoutL q p).take (m + 1))) (s - k + (m + 1)) := fun w6 h => by
                rw [hno] at h
                rw [take_snoc hxc]
                exact h.congr fun j => keepF_open ..
              have Hnext := hide hnext
              clear hnext hno
              cases m with
              | zero =>
                subst hA1
                rw [Nat.add_zero] at c0
                clear hxc
                go_wp2_with (first | (at_lookup; refine wpList_mapRead rfl _ _ rfl mapB hmp.out rfl c rfl Hok1.out ?_; rw [Hnew.out]) | (at_mapUpdate; refine wpList_mapWrite rfl _ _ _ rfl mapB hmp.out (by omega) rfl c rfl Hok1.out true rfl trivial ?_; intro w6 hmp6 hg6))
                have hbb := Hbm.out
                exact ⟨⟨1, by omega, by first | rfl | go_num, hb.grown hg6 hb.size (fun g hg => by injection hg with hg; omega), hide (Hnext.out w6 hmp6)⟩, by simp [intOf]; omega⟩
              | succ k' =>
                obtain ⟨b2, off2, c', hA2, hb2, hxc', e0⟩ := (HrO.out.bel hb).int (i := k') (by have := Hno.out; omega)
                rw [hA1] at hA2
                injection hA2 with hA2
                injection hA2 with h1 h2
                subst h1 h2 hA1
                have hlt2 := sorted_at (withoutL_sorted Hsq.out) (Nat.lt_succ_self k') hxc' hxc
                clear hxc hxc'
                have j0 : (0 : Int) ≤ (k' : Int) := by omega
                have j1 : (k' : Int) < (no : Int) := by omega
                have j2 : (k' : Int) + 1 < (no : Int) := by omega
                have j3 : (0 : Int) ≤ (k' : Int) + 1 := by omega
                go_wp2_with (first | (at_lookup; refine wpList_mapRead rfl _ _ rfl mapB hmp.out rfl c rfl Hok1.out ?_; rw [Hnew.out]) | (at_mapUpdate; refine wpList_mapWrite rfl _ _ _ rfl mapB hmp.out (by omega) rfl c rfl Hok1.out true rfl trivial ?_; intro w6 hmp6 hg6))
                have hbb := Hbm.out
                exact ⟨⟨k' + 1 + 1, by omega, by go_num, hb.grown hg6 hb.size (fun g hg => by injection hg with hg; omega), hide (Hnext.out w6 hmp6)⟩, by simp [intOf]; omega⟩
            · obtain rfl : m = no := by omega
              have hpt : (withoutL q p).take m = withoutL q p := List.take_of_length_le (by have := Hno.out; omega)
              have hsz : s - k + m = nq := by have := Hcnt.out; omega
              rw [hpt, hsz] at hmp
              clear hpt hsz
              obtain ⟨wz, rfl⟩ : ∃ wz, wz = wr := ⟨wr, rfl⟩
              go_wp2_with fail
              go_loopw [190] (fun i wq => ∃ j : Nat, j ≤ nq ∧ i = .int .i64 j ∧ wz = wq) (fun i _ => nq - (intOf i).toNat)
              case atStart => exact ⟨0, by omega, rfl, rfl⟩
              case round =>
                obtain ⟨j, hj, rfl, rfl⟩ := hrel
                by_cases hlt : j < nq
                · obtain ⟨b1, off1, c, rfl, hb1, hxc, c0⟩ := (HrQ.out.bel hb).int (i := j) (by have := Hnq.out; omega)
                  have Hok1 := hide (Hoq.out c (List.mem_of_getElem? hxc))
                  have Hin := hide (show (keepF p (withoutL p q) (withoutL q p) c).getD false = true by rw [all_open (List.mem_of_getElem? hxc)]; rfl)
                  clear hxc
                  go_wp2_with (at_lookup; refine wpList_mapRead rfl _ _ rfl mapB hmp.out rfl c rfl Hok1.out ?_; rw [Hin.out])
                  exact ⟨⟨j + 1, by omega, by go_num, by first | rfl | trivial⟩, by simp [intOf]; omega⟩
                · obtain rfl : j = nq := by omega
                  obtain ⟨D, hD, _, _, _, hsz⟩ := hmp.out
                  have hlen := hD.len mapB.ty 3
                  first | rw [hsz] at hlen | rw [← hsz] at hlen
                  go_wp2_with fail
                  go_ret
                  exact ⟨rfl, hB.trans (hb.mono hB.size)⟩
set_option maxRecDepth 100000 in
theorem channelMoves_lifted (os : Os) (started : os.Started) (H : Type) (enc : TypeId × Value → H) :
    ReturnsInHanded {} Try.checked os 9 .any (Rows.channelMovesSpec.pre6 enc Try.prog Try.f9 Rows.channelMovesRow.domain false) (Rows.channelMovesSpec.post enc Try.prog Try.f9 false true false false) := by
  refine law_lifted os started H enc (s := Rows.channelMovesSpec) Try.func9 (by kernel_rfl) ?_ rfl Try.underlying4 rfl (of_decide_eq_true (by kernel_rfl))
    (ChangeSpec.witness6 (enc := enc) (C := Try.checked) false ⟨#[], #[.agg #[.slice none 0 0, .slice none 0 0, .int .i64 0, .int .i64 0], .int .u8 0, .int .u8 0], []⟩ 8 (by kernel_rfl) (by kernel_rfl) (by kernel_rfl) (by kernel_rfl)) ?_
  · intro ds hds
    match ds, hds with
    | [a, b, c], _ => rfl
  · intro W base args ds ps hval hA hlt
    rw [Try.params9] at hA hval
    obtain ⟨v0, v1, v2, d0, d1, d2, p0, p1, p2, rfl, rfl, rfl, h0, h1, h2⟩ := trodAll_three hA
    obtain ⟨Ac, nc, cc, Af, nf, cf, dry, days, cs, fs, rfl, hnc, hnf, _, _, hcs, hfs, _, _, _, _⟩ := open_net (hval 0 _ v0 rfl rfl) h0
    obtain ⟨x, rfl, hx⟩ := open_u8 (hval 1 _ v1 rfl rfl) h1
    obtain ⟨y, rfl, hy⟩ := open_u8 (hval 2 _ v2 rfl rfl) h2
    exact moves_walk Ac Af nc cc nf cf x y dry days cs fs W hnc hnf hcs hfs hx hy

theorem channelMoves_holds : Rows.ChannelMovesSaid :=
  OpenClaim.holds_of_wide 9 Try.f9 rfl rfl rfl rfl rfl rfl rfl ⟨rfl, rfl, rfl, rfl, rfl⟩ rfl rfl rfl rfl rfl (by kernel_rfl) Try.func9 (by kernel_rfl)
    (of_decide_eq_true (by kernel_rfl)) (by unfold Func.isWrapper; rw [if_neg (of_decide_eq_false (by kernel_rfl))]; exact ⟨rfl, rfl⟩)
    (fun os started H enc _ => channelMoves_lifted os started H enc)
#print axioms channelMoves_holds
end Go.Proofs.Ytgklcilpohkpkaa
