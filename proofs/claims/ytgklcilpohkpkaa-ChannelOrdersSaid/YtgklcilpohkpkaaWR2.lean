/- The reference of channel: waters, by contract. -/
import Derived.Test.YtgklcilpohkpkaaWR1
import Derived.Test.YtgklcilpohkpkaaDry2
set_option linter.unusedVariables false
set_option linter.unusedSimpArgs false
namespace Go.Proofs.Ytgklcilpohkpkaa
open Go.RowKit Go.Shelf
attribute [local go_sem] Oper.semAt_some
/-- What stands while the uses are gone through: the rows of fields and canals hold fl and ll. -/
structure RC (w : World) (net : List Value) (a b : Int) (nf nc gf gl : Nat) (fl ll : List Sp) (W : World) : Prop where
  net : At W w.heap.size net
  flw : At W (w.heap.size + 1) [.int .i64 a, .int .i64 b]
  of : Own W (w.heap.size + 1 + 1) 51 2 Sp.cells (.slice (some ⟨gf, 0, none⟩) nf nf) fl
  ol : Own W (w.heap.size + 1 + 1) 51 2 Sp.cells (.slice (some ⟨gl, 0, none⟩) nc nc) ll
  ne : gf ≠ gl
  lf : w.heap.size + 2 ≤ gf
  ll : w.heap.size + 2 ≤ gl
  bl : Below w.heap.size w W
section
variable {w W W' : World} {net : List Value} {a b : Int} {nf nc gf gl : Nat} {fl ll : List Sp}
theorem RC.kept {R : Nat → Prop} (h : RC w net a b nf nc gf gl fl ll W) (hk : Kept R W W') (h0 : ∀ x, x < w.heap.size + 2 → R x) (hf : R gf) (hl : R gl) : RC w net a b nf nc gf gl fl ll W' :=
  ⟨h.net.kept hk (h0 _ (by omega)), h.flw.kept hk (h0 _ (by omega)), h.of.keptB hk (fun g hg => by simp [Value.ownBlock] at hg; subst hg; exact hf), h.ol.keptB hk (fun g hg => by simp [Value.ownBlock] at hg; subst hg; exact hl), h.ne, h.lf, h.ll, h.bl.trans (hk.below (fun b hb => h0 b (by omega)) h.bl.size)⟩
theorem RC.below (h : RC w net a b nf nc gf gl fl ll W) (hb : Below W.heap.size W W') : RC w net a b nf nc gf gl fl ll W' := h.kept (Kept.all (fun _ => True) hb) (fun _ _ => trivial) trivial trivial
theorem RC.put (h : RC w net a b nf nc gf gl fl ll W) {i : Nat} {x : Sp} (hx : ll[i]? = some x) (p q : Int) :
    RC w net a b nf nc gf gl fl (ll.set i ⟨p, q⟩) ((W.setCell ⟨gl, i * 2, none⟩ (.int .i64 p)).setCell ⟨gl, i * 2 + 1, none⟩ (.int .i64 q)) := by
  have h1 := h.lf
  have h2 := h.ll
  have h3 := h.ne
  have hn := own_len h.ol
  obtain ⟨x0, x1⟩ := x
  have o1 := (h.ol.put_ Sp.len hx (j := 0) (x' := ⟨p, x1⟩) (u := .int .i64 p) (by omega) rfl hn).1
  have hx2 : (ll.set i ⟨p, x1⟩)[i]? = some ⟨p, x1⟩ := by rw [List.getElem?_set_self (List.getElem?_eq_some_iff.1 hx).1]
  have o2 := (o1.put_ Sp.len hx2 (j := 1) (x' := ⟨p, q⟩) (u := .int .i64 q) (by omega) rfl (by rw [List.length_set]; exact hn)).1
  rw [List.set_set, Nat.add_zero] at o2
  exact ⟨(h.net.other _ _ (by omega)).other _ _ (by omega), (h.flw.other _ _ (by omega)).other _ _ (by omega),
    (h.of.setCell (by simp [Value.ownBlock]; omega) _).setCell (by simp [Value.ownBlock]; omega) _, o2, h.ne, h.lf, h.ll, (h.bl.setCell (by simp; omega) _).setCell (by simp; omega) _⟩
theorem RC.putF (h : RC w net a b nf nc gf gl fl ll W) {i : Nat} {x : Sp} (hx : fl[i]? = some x) (p q : Int) :
    RC w net a b nf nc gf gl (fl.set i ⟨p, q⟩) ll ((W.setCell ⟨gf, i * 2, none⟩ (.int .i64 p)).setCell ⟨gf, i * 2 + 1, none⟩ (.int .i64 q)) := by
  have h1 := h.lf
  have h2 := h.ll
  have h3 := h.ne
  have hn := own_len h.of
  obtain ⟨x0, x1⟩ := x
  have o1 := (h.of.put_ Sp.len hx (j := 0) (x' := ⟨p, x1⟩) (u := .int .i64 p) (by omega) rfl hn).1
  have hx2 : (fl.set i ⟨p, x1⟩)[i]? = some ⟨p, x1⟩ := by rw [List.getElem?_set_self (List.getElem?_eq_some_iff.1 hx).1]
  have o2 := (o1.put_ Sp.len hx2 (j := 1) (x' := ⟨p, q⟩) (u := .int .i64 q) (by omega) rfl (by rw [List.length_set]; exact hn)).1
  rw [List.set_set, Nat.add_zero] at o2
  exact ⟨(h.net.other _ _ (by omega)).other _ _ (by omega), (h.flw.other _ _ (by omega)).other _ _ (by omega), o2,
    (h.ol.setCell (by simp [Value.ownBlock]; omega) _).setCell (by simp [Value.ownBlock]; omega) _, h.ne, h.lf, h.ll, (h.bl.setCell (by simp; omega) _).setCell (by simp; omega) _⟩
end
theorem two_boxes {W : World} {b c : Nat} {p q r s : Value} (h1 : At W b [p, q]) (h2 : At W c [r, s]) (hne : b ≠ c) (x y u v : Value) :
    At ((((W.setCell ⟨b, 0, none⟩ x).setCell ⟨b, 1, none⟩ y).setCell ⟨c, 0, none⟩ u).setCell ⟨c, 1, none⟩ v) b [x, y] ∧ At ((((W.setCell ⟨b, 0, none⟩ x).setCell ⟨b, 1, none⟩ y).setCell ⟨c, 0, none⟩ u).setCell ⟨c, 1, none⟩ v) c [u, v] :=
  ⟨by simpa using ((((h1.set (j := 0) x (by simp)).set (j := 1) y (by simp)).other (r := c) 0 u hne).other (r := c) 1 v hne),
   by simpa using (((h2.other (r := b) 0 x (Ne.symm hne)).other (r := b) 1 y (Ne.symm hne)).set (j := 0) u (by simp)).set (j := 1) v (by simp)⟩
set_option maxHeartbeats 4000000 in
set_option maxRecDepth 100000 in
theorem rWaters_any (Ac Af Au : Option Addr) (nc cc nf cf nu cu : Nat) (dry days a b : Int) (cs : List Ca) (fs : List Int) (us : List Us) (w : World) (hnet : NetAt w Ac Af nc nf cs fs) (hus : Rd w w.heap.size Us.cells Au us) (hnu : nu = us.length) (hok : netOk cs fs dry days = true) (huo : usesOk nf days us = true) (hsp : Sp.ok 0 13000000 ⟨a, b⟩ = true) :
    Calls Try.prog 70 #[.agg #[.slice Ac nc cc, .slice Af nf cf, .int .i64 dry, .int .i64 days], .agg #[.int .i64 a, .int .i64 b], .slice Au nu cu] w fun e w' => ∃ gf gl, e = .returned (.tuple #[.slice (some ⟨gf, 0, none⟩) nf nf, .slice (some ⟨gl, 0, none⟩) nc nc]) ∧
      Own w' w.heap.size 51 2 Sp.cells (.slice (some ⟨gf, 0, none⟩) nf nf) (watersK cs fs dry (days * 1440) a b us us.length).1 ∧ Own w' w.heap.size 51 2 Sp.cells (.slice (some ⟨gl, 0, none⟩) nc nc) (watersK cs fs dry (days * 1440) a b us us.length).2 ∧ Below w.heap.size w w' := by
  have hdy := (netOk_parts hok).2.2.2.1
  have hnu60 : nu ≤ 60 := by have := usesOk_len huo; omega
  have Hok := hide hok; have Hnu := hide hnu; have Hus := hide hus; have Huo := hide huo; have Hsp := hide hsp
  have hnf2 := hnet.nf2
  have hnc2 := hnet.nc2
  clear hok hnu hus huo hsp
  refine (callsIn_wide (n := 9)).1 ?_
  refine callsIn_of_wp Try.func70 rfl trivial ?_ rfl
  simp only [Try.ntmps70, List.size_toArray, List.length_cons, List.length_nil, Nat.reduceAdd, Nat.reduceSub, Array.replicate_succ, Array.replicate_zero, List.push_toArray, List.append_toArray, List.nil_append, List.cons_append]
  gi_wp2_with fail
  obtain ⟨W0, HW0⟩ : ∃ W0, Hid ((w.alloc (.cells #[.slice Ac nc cc, .slice Af nf cf, .int .i64 dry, .int .i64 days] 25)).alloc (.cells #[.int .i64 a, .int .i64 b] 51) = W0) := ⟨_, hide rfl⟩
  rw [HW0.out]
  have HN : Hid (At W0 w.heap.size [.slice Ac nc cc, .slice Af nf cf, .int .i64 dry, .int .i64 days] ∧ At W0 (w.heap.size + 1) [.int .i64 a, .int .i64 b]) := by
    rw [← HW0.out]; exact hide ⟨(At.new w #[.slice Ac nc cc, .slice Af nf cf, .int .i64 dry, .int .i64 days] _ _ rfl _ rfl).alloc _, At.new _ #[.int .i64 a, .int .i64 b] _ _ (by simp) _ rfl⟩
  have HB0 : Hid (Below w.heap.size w W0) := by rw [← HW0.out]; exact hide ((below_new w _).alloc (by simp) _)
  have hs0 : w.heap.size + 1 + 1 ≤ W0.heap.size := by rw [← HW0.out]; simp
  clear HW0
  have Hnet := hide hnet
  clear hnet
  refine wpIn_mono (Q := onNormal (fun a' W => ∃ (gf gl : Nat), a'.tmps.size = 125 ∧ a'.defers = [] ∧ slot a' 2 = .slice Au nu cu ∧ slot a' 3 = .pointer (some ⟨w.heap.size, 0, none⟩) ∧ slot a' 4 = .pointer (some ⟨w.heap.size + 1, 0, none⟩) ∧ slot a' 8 = .slice (some ⟨gf, 0, none⟩) nf nf ∧ slot a' 9 = .slice (some ⟨gl, 0, none⟩) nc nc ∧ RC w [.slice Ac nc cc, .slice Af nf cf, .int .i64 dry, .int .i64 days] a b nf nc gf gl (List.replicate nf ⟨0, 0⟩) (List.replicate nc ⟨0, 0⟩) W)) (wpIn_wide.2 ?_) ?_
  · refine wp_region_held_drew (S := (fun W => Below W0.heap.size W0 W)) (by kernel_rfl) (by (try dsimp only); exact (Below.refl _ _).drew) (fun hHeld => ?_)
    refine wpAnyH_take (i := 0) (oi := ⟨_, _, _, _, _, _⟩) (v := ?_) rfl (by kernel_rfl) (by kernel_rfl) (by kernel_rfl) (fun _ _ _ h => h) (Or.inl ⟨by rfl, ?_⟩) hHeld ?_
    rotate_left
    · (intro w hSw; (try dsimp only at hSw); go_simp; try (with_reducible rfl))
    try simp only [Act.put, List.setIfInBounds_toArray, List.set_cons_zero, List.set_cons_succ]
    refine wpAnyH_take (i := 1) (oi := ⟨_, _, _, _, _, _⟩) (v := ?_) rfl (by kernel_rfl) (by kernel_rfl) (by kernel_rfl) (fun _ _ _ h => h) (Or.inl ⟨by rfl, ?_⟩) hHeld ?_
    rotate_left
    · (intro w hSw; (try dsimp only at hSw); obtain ⟨q0, q1, q2, q3⟩ := (HN.out.1.below hSw).c4; go_simp; try (with_reducible rfl))
    try simp only [Act.put, List.setIfInBounds_toArray, List.set_cons_zero, List.set_cons_succ]
    refine wpAnyH_take (i := 2) (oi := ⟨_, _, _, _, _, _⟩) (v := ?_) rfl (by kernel_rfl) (by kernel_rfl) (by kernel_rfl) (fun _ _ _ h => h) (Or.inl ⟨by rfl, ?_⟩) hHeld ?_
    rotate_left
    · (intro w hSw; (try dsimp only at hSw); go_simp; try (with_reducible rfl))
    try simp only [Act.put, List.setIfInBounds_toArray, List.set_cons_zero, List.set_cons_succ]
    refine wpAnyH_take (i := 4) (oi := ⟨_, _, _, _, _, _⟩) (v := ?_) rfl (by kernel_rfl) (by kernel_rfl) (by kernel_rfl) (fun _ _ _ h => h) (Or.inl ⟨by rfl, ?_⟩) hHeld ?_
    rotate_left
    · (intro w hSw; (try dsimp only at hSw); go_simp; try (with_reducible rfl))
    try simp only [Act.put, List.setIfInBounds_toArray, List.set_cons_zero, List.set_cons_succ]
    refine wpAnyH_take (i := 5) (oi := ⟨_, _, _, _, _, _⟩) (v := ?_) rfl (by kernel_rfl) (by kernel_rfl) (by kernel_rfl) (fun _ _ _ h => h) (Or.inl ⟨by rfl, ?_⟩) hHeld ?_
    rotate_left
    · (intro w hSw; (try dsimp only at hSw); obtain ⟨q0, q1, q2, q3⟩ := (HN.out.1.below hSw).c4; go_simp; try (with_reducible rfl))
    try simp only [Act.put, List.setIfInBounds_toArray, List.set_cons_zero, List.set_cons_succ]
    refine wpAnyH_take (i := 6) (oi := ⟨_, _, _, _, _, _⟩) (v := ?_) rfl (by kernel_rfl) (by kernel_rfl) (by kernel_rfl) (fun _ _ _ h => h) (Or.inl ⟨by rfl, ?_⟩) hHeld ?_
    rotate_left
    · (intro w hSw; (try dsimp only at hSw); go_simp; try (with_reducible rfl))
    try simp only [Act.put, List.setIfInBounds_toArray, List.set_cons_zero, List.set_cons_succ]
    refine wpAnyH_ready (rs := [3, 7]) (by kernel_rfl) (by simp) ?_
    refine AllReadyH.cons (o := ⟨_, _, _, _, _, _⟩) rfl (fun K hK => ?_) ?_
    ·
      rw [if_pos (by rfl)]
      refine op_make (n := nf) (base := w.heap.size + 1 + 1) rfl (Nat.le_trans hs0 hHeld.size) (by first | rfl | simp [Act.eval]) (by first | rfl | simp [Act.eval]) hnf2 ?_
      intro wf Howf hb hltf
      have hbkf := hb
      have hlof := hHeld.size
      
      refine hK.out _ _ ?_ (fun hHeld2 => ?_)
      · (try dsimp only)
        (first | exact hHeld | exact hHeld.trans (hb.mono hHeld.size) | exact hHeld.trans ((below_new _ _).mono hHeld.size) | exact hHeld.drew)
      clear hK K hHeld; have hHeld := hHeld2; clear hHeld2
      try simp only [Act.put, List.setIfInBounds_toArray, List.set_cons_zero, List.set_cons_succ]
      refine wpAnyH_take (i := 8) (oi := ⟨_, _, _, _, _, _⟩) (v := ?_) rfl (by kernel_rfl) (by kernel_rfl) (by kernel_rfl) (fun _ _ _ h => h) (Or.inl ⟨by rfl, ?_⟩) hHeld ?_
      rotate_left
      · (intro w hSw; (try dsimp only at hSw); go_simp; try (with_reducible rfl))
      try simp only [Act.put, List.setIfInBounds_toArray, List.set_cons_zero, List.set_cons_succ]
      refine wpAnyH_ready (rs := [7]) (by kernel_rfl) (by simp) ?_
      refine AllReadyH.cons (o := ⟨_, _, _, _, _, _⟩) rfl (fun K hK => ?_) AllReadyH.nil
      rw [if_pos (by rfl)]
      refine op_make (n := nc) (base := w.heap.size + 1 + 1) rfl (Nat.le_trans hs0 hHeld.size) (by first | rfl | simp [Act.eval]) (by first | rfl | simp [Act.eval]) hnc2 ?_
      intro wc Howc hb hltc
      have hbkc := hb
      have hloc := hHeld.size
      
      refine hK.out _ _ ?_ (fun hHeld2 => ?_)
      · (try dsimp only)
        (first | exact hHeld | exact hHeld.trans (hb.mono hHeld.size) | exact hHeld.trans ((below_new _ _).mono hHeld.size) | exact hHeld.drew)
      clear hK K hHeld; have hHeld := hHeld2; clear hHeld2
      try simp only [Act.put, List.setIfInBounds_toArray, List.set_cons_zero, List.set_cons_succ]
      refine wpAnyH_take (i := 9) (oi := ⟨_, _, _, _, _, _⟩) (v := ?_) rfl (by kernel_rfl) (by kernel_rfl) (by kernel_rfl) (fun _ _ _ h => h) (Or.inl ⟨by rfl, ?_⟩) hHeld ?_
      rotate_left
      · (intro w hSw; (try dsimp only at hSw); go_simp; try (with_reducible rfl))
      try simp only [Act.put, List.setIfInBounds_toArray, List.set_cons_zero, List.set_cons_succ]
      refine wpAnyH_done (by kernel_rfl) ?_ _
      have hwf := hltf
      have hwc := hltc
      first
        | exact ⟨_, _, by first | rfl | trivial, by first | rfl | trivial, by first | rfl | trivial, by first | rfl | trivial, by first | rfl | trivial, by first | rfl | trivial, by first | rfl | trivial, (HN.out.1.below hHeld), (HN.out.2.below hHeld), Howf.below hbkc, Howc, by omega, by omega, by omega, HB0.out.trans (hHeld.mono HB0.out.size)⟩
        | exact ⟨_, _, by first | rfl | trivial, by first | rfl | trivial, by first | rfl | trivial, by first | rfl | trivial, by first | rfl | trivial, by first | rfl | trivial, by first | rfl | trivial, (HN.out.1.below hHeld), (HN.out.2.below hHeld), Howf, Howc.below hbkf, by omega, by omega, by omega, HB0.out.trans (hHeld.mono HB0.out.size)⟩
    refine AllReadyH.cons (o := ⟨_, _, _, _, _, _⟩) rfl (fun K hK => ?_) AllReadyH.nil
    rw [if_pos (by rfl)]
    refine op_make (n := nc) (base := w.heap.size + 1 + 1) rfl (Nat.le_trans hs0 hHeld.size) (by first | rfl | simp [Act.eval]) (by first | rfl | simp [Act.eval]) hnc2 ?_
    intro wc Howc hb hltc
    have hbkc := hb
    have hloc := hHeld.size
    
    refine hK.out _ _ ?_ (fun hHeld2 => ?_)
    · (try dsimp only)
      (first | exact hHeld | exact hHeld.trans (hb.mono hHeld.size) | exact hHeld.trans ((below_new _ _).mono hHeld.size) | exact hHeld.drew)
    clear hK K hHeld; have hHeld := hHeld2; clear hHeld2
    try simp only [Act.put, List.setIfInBounds_toArray, List.set_cons_zero, List.set_cons_succ]
    refine wpAnyH_ready (rs := [3]) (by kernel_rfl) (by simp) ?_
    refine AllReadyH.cons (o := ⟨_, _, _, _, _, _⟩) rfl (fun K hK => ?_) AllReadyH.nil
    rw [if_pos (by rfl)]
    refine op_make (n := nf) (base := w.heap.size + 1 + 1) rfl (Nat.le_trans hs0 hHeld.size) (by first | rfl | simp [Act.eval]) (by first | rfl | simp [Act.eval]) hnf2 ?_
    intro wf Howf hb hltf
    have hbkf := hb
    have hlof := hHeld.size
    
    refine hK.out _ _ ?_ (fun hHeld2 => ?_)
    · (try dsimp only)
      (first | exact hHeld | exact hHeld.trans (hb.mono hHeld.size) | exact hHeld.trans ((below_new _ _).mono hHeld.size) | exact hHeld.drew)
    clear hK K hHeld; have hHeld := hHeld2; clear hHeld2
    try simp only [Act.put, List.setIfInBounds_toArray, List.set_cons_zero, List.set_cons_succ]
    refine wpAnyH_take (i := 8) (oi := ⟨_, _, _, _, _, _⟩) (v := ?_) rfl (by kernel_rfl) (by kernel_rfl) (by kernel_rfl) (fun _ _ _ h => h) (Or.inl ⟨by rfl, ?_⟩) hHeld ?_
    rotate_left
    · (intro w hSw; (try dsimp only at hSw); go_simp; try (with_reducible rfl))
    try simp only [Act.put, List.setIfInBounds_toArray, List.set_cons_zero, List.set_cons_succ]
    refine wpAnyH_take (i := 9) (oi := ⟨_, _, _, _, _, _⟩) (v := ?_) rfl (by kernel_rfl) (by kernel_rfl) (by kernel_rfl) (fun _ _ _ h => h) (Or.inl ⟨by rfl, ?_⟩) hHeld ?_
    rotate_left
    · (intro w hSw; (try dsimp only at hSw); go_simp; try (with_reducible rfl))
    try simp only [Act.put, List.setIfInBounds_toArray, List.set_cons_zero, List.set_cons_succ]
    refine wpAnyH_done (by kernel_rfl) ?_ _
    have hwf := hltf
    have hwc := hltc
    first
      | exact ⟨_, _, by first | rfl | trivial, by first | rfl | trivial, by first | rfl | trivial, by first | rfl | trivial, by first | rfl | trivial, by first | rfl | trivial, by first | rfl | trivial, (HN.out.1.below hHeld), (HN.out.2.below hHeld), Howf.below hbkc, Howc, by omega, by omega, by omega, HB0.out.trans (hHeld.mono HB0.out.size)⟩
      | exact ⟨_, _, by first | rfl | trivial, by first | rfl | trivial, by first | rfl | trivial, by first | rfl | trivial, by first | rfl | trivial, by first | rfl | trivial, by first | rfl | trivial, (HN.out.1.below hHeld), (HN.out.2.below hHeld), Howf, Howc.below hbkf, by omega, by omega, by omega, HB0.out.trans (hHeld.mono HB0.out.size)⟩
  rintro e a' W hq
  cases e with
  | normal =>
    obtain ⟨gf, gl, hs, hd, s2, s3, s4, s8, s9, hC⟩ := hq
    rw [act_eq hs hd]
    obtain ⟨u, hu⟩ : ∃ u, u = slot a' := ⟨_, rfl⟩
    rw [← hu] at s2 s3 s4 s8 s9 ⊢
    have he : ({ tmps := ((List.range 125).map u).toArray, defers := [] } : Act) = { tmps := #[(u 0), (u 1), (u 2), (u 3), (u 4), (u 5), (u 6), (u 7), (u 8), (u 9), (u 10), (u 11), (u 12), (u 13), (u 14), (u 15), (u 16), (u 17), (u 18), (u 19), (u 20), (u 21), (u 22), (u 23), (u 24), (u 25), (u 26), (u 27), (u 28), (u 29), (u 30), (u 31), (u 32), (u 33), (u 34), (u 35), (u 36), (u 37), (u 38), (u 39), (u 40), (u 41), (u 42), (u 43), (u 44), (u 45), (u 46), (u 47), (u 48), (u 49), (u 50), (u 51), (u 52), (u 53), (u 54), (u 55), (u 56), (u 57), (u 58), (u 59), (u 60), (u 61), (u 62), (u 63), (u 64), (u 65), (u 66), (u 67), (u 68), (u 69), (u 70), (u 71), (u 72), (u 73), (u 74), (u 75), (u 76), (u 77), (u 78), (u 79), (u 80), (u 81), (u 82), (u 83), (u 84), (u 85), (u 86), (u 87), (u 88), (u 89), (u 90), (u 91), (u 92), (u 93), (u 94), (u 95), (u 96), (u 97), (u 98), (u 99), (u 100), (u 101), (u 102), (u 103), (u 104), (u 105), (u 106), (u 107), (u 108), (u 109), (u 110), (u 111), (u 112), (u 113), (u 114), (u 115), (u 116), (u 117), (u 118), (u 119), (u 120), (u 121), (u 122), (u 123), (u 124)], defers := [] } := rfl
    rw [he, s2, s3, s4, s8, s9]
    clear he hs hd hu s2 s3 s4 s8 s9
    have HC0 := hide hC
    clear hC
    gi_wp2_with fail
    refine wpIn_loop_rounds (nu + 1) (rounds_of (fun r a1 wr => ∃ i : Nat, i + r = nu + 1 ∧ i ≤ nu ∧ a1.tmps.size = 125 ∧ a1.defers = [] ∧ slot a1 2 = .slice Au nu cu ∧ slot a1 3 = .pointer (some ⟨w.heap.size, 0, none⟩) ∧ slot a1 4 = .pointer (some ⟨w.heap.size + 1, 0, none⟩) ∧ slot a1 8 = .slice (some ⟨gf, 0, none⟩) nf nf ∧ slot a1 9 = .slice (some ⟨gl, 0, none⟩) nc nc ∧ slot a1 10 = .int .i64 i ∧ RC w [.slice Ac nc cc, .slice Af nf cf, .int .i64 dry, .int .i64 days] a b nf nc gf gl (watersK cs fs dry (days * 1440) a b us i).1 (watersK cs fs dry (days * 1440) a b us i).2 wr) ?_ ?_ (nu + 1) _ _ ⟨0, by omega, by omega, by first | rfl | trivial, by first | rfl | trivial, by first | rfl | trivial, by first | rfl | trivial, by first | rfl | trivial, by first | rfl | trivial, by first | rfl | trivial, by first | rfl | trivial, by
      have h := HC0.out
      rw [Hnet.out.ef, Hnet.out.ec] at h ⊢
      exact h⟩)
    · rintro a wr ⟨i, hi, hi2, _⟩
      omega
    · clear HC0
      rintro r a1 wr ⟨i, hir, hi, hs, hd, s2, s3, s4, s8, s9, s10, hC⟩
      rw [act_eq hs hd]
      obtain ⟨u, hu⟩ : ∃ u, u = slot a1 := ⟨_, rfl⟩
      rw [← hu] at s2 s3 s4 s8 s9 s10 ⊢
      have he : ({ tmps := ((List.range 125).map u).toArray, defers := [] } : Act) = { tmps := #[(u 0), (u 1), (u 2), (u 3), (u 4), (u 5), (u 6), (u 7), (u 8), (u 9), (u 10), (u 11), (u 12), (u 13), (u 14), (u 15), (u 16), (u 17), (u 18), (u 19), (u 20), (u 21), (u 22), (u 23), (u 24), (u 25), (u 26), (u 27), (u 28), (u 29), (u 30), (u 31), (u 32), (u 33), (u 34), (u 35), (u 36), (u 37), (u 38), (u 39), (u 40), (u 41), (u 42), (u 43), (u 44), (u 45), (u 46), (u 47), (u 48), (u 49), (u 50), (u 51), (u 52), (u 53), (u 54), (u 55), (u 56), (u 57), (u 58), (u 59), (u 60), (u 61), (u 62), (u 63), (u 64), (u 65), (u 66), (u 67), (u 68), (u 69), (u 70), (u 71), (u 72), (u 73), (u 74), (u 75), (u 76), (u 77), (u 78), (u 79), (u 80), (u 81), (u 82), (u 83), (u 84), (u 85), (u 86), (u 87), (u 88), (u 89), (u 90), (u 91), (u 92), (u 93), (u 94), (u 95), (u 96), (u 97), (u 98), (u 99), (u 100), (u 101), (u 102), (u 103), (u 104), (u 105), (u 106), (u 107), (u 108), (u 109), (u 110), (u 111), (u 112), (u 113), (u 114), (u 115), (u 116), (u 117), (u 118), (u 119), (u 120), (u 121), (u 122), (u 123), (u 124)], defers := [] } := rfl
      rw [he, s2, s3, s4, s8, s9, s10]
      clear he hs hd hu s2 s3 s4 s8 s9 s10
      by_cases hlt : i < nu
      · obtain ⟨bu, off, uf, u0, ut, rfl, hbu0, hx, c0, c1, c2⟩ := (Hus.out.below hC.bl).us (i := i) (by rw [← Hnu.out]; exact hlt)
        have hbu : bu < wr.heap.size := Nat.lt_of_lt_of_le hbu0 hC.bl.size
        have hll0 := hC.ll
        have hum := usesOk_mem Huo.out (List.mem_of_getElem? hx)
        obtain ⟨⟨f0, f1⟩, t0, t1, t2⟩ := hum
        simp only at f0 f1 t0 t1 t2
        have HX := hide hx; have HC := hide hC
        have i0 : (0 : Int) ≤ (i : Int) := by omega
        have i1 : (i : Int) < (nu : Int) := by omega
        clear hx hC
        gi_wp2_with fail
        refine wpIn_region_S (S := (fun W => Below wr.heap.size wr W)) (z := 14) (by kernel_rfl) (by (try dsimp only); exact (Below.refl _ _).drew) (fun hHeld => ?_)
        refine wpAnyS_take (i := 0) (oi := ⟨_, _, _, _, _, _⟩) (v := ?_) rfl (fun _ => trivial) (by kernel_rfl) (by kernel_rfl) (by kernel_rfl) (by kernel_rfl) (fun _ _ _ h => h) (Or.inl ⟨by rfl, ?_⟩) hHeld ?_
        rotate_left
        · (intro w hSw; (try dsimp only at hSw); go_simp; try (with_reducible rfl))
        try simp only [Act.put, List.setIfInBounds_toArray, List.set_cons_zero, List.set_cons_succ]
        refine wpAnyS_take (i := 1) (oi := ⟨_, _, _, _, _, _⟩) (v := ?_) rfl (fun _ => trivial) (by kernel_rfl) (by kernel_rfl) (by kernel_rfl) (by kernel_rfl) (fun _ _ _ h => h) (Or.inl ⟨by rfl, ?_⟩) hHeld ?_
        rotate_left
        · (intro w hSw; (try dsimp only at hSw); go_simp; try (with_reducible rfl))
        try simp only [Act.put, List.setIfInBounds_toArray, List.set_cons_zero, List.set_cons_succ]
        refine wpAnyS_take (i := 2) (oi := ⟨_, _, _, _, _, _⟩) (v := ?_) rfl (fun _ => trivial) (by kernel_rfl) (by kernel_rfl) (by kernel_rfl) (by kernel_rfl) (fun _ _ _ h => h) (Or.inl ⟨by rfl, ?_⟩) hHeld ?_
        rotate_left
        · (intro w hSw; (try dsimp only at hSw); go_simp; try (with_reducible rfl))
        try simp only [Act.put, List.setIfInBounds_toArray, List.set_cons_zero, List.set_cons_succ]
        refine wpAnyS_take (i := 3) (oi := ⟨_, _, _, _, _, _⟩) (v := ?_) rfl (fun _ => trivial) (by kernel_rfl) (by kernel_rfl) (by kernel_rfl) (by kernel_rfl) (fun _ _ _ h => h) (Or.inl ⟨by rfl, ?_⟩) hHeld ?_
        rotate_left
        · (intro w hSw; (try dsimp only at hSw); go_simp; try (with_reducible rfl))
        try simp only [Act.put, List.setIfInBounds_toArray, List.set_cons_zero, List.set_cons_succ]
        refine wpAnyS_take (i := 4) (oi := ⟨_, _, _, _, _, _⟩) (v := ?_) rfl (fun _ => trivial) (by kernel_rfl) (by kernel_rfl) (by kernel_rfl) (by kernel_rfl) (fun _ _ _ h => h) (Or.inl ⟨by rfl, ?_⟩) hHeld ?_
        rotate_left
        · (intro w hSw; (try dsimp only at hSw); go_simp; try (with_reducible rfl))
        try simp only [Act.put, List.setIfInBounds_toArray, List.set_cons_zero, List.set_cons_succ]
        refine wpAnyS_take (i := 5) (oi := ⟨_, _, _, _, _, _⟩) (v := ?_) rfl (fun _ => trivial) (by kernel_rfl) (by kernel_rfl) (by kernel_rfl) (by kernel_rfl) (fun _ _ _ h => h) (Or.inl ⟨by rfl, ?_⟩) hHeld ?_
        rotate_left
        · (intro w hSw; (try dsimp only at hSw); have c1 := (hSw.cell (p := ⟨bu, off + i * 3 + 1, none⟩) hbu).trans c1; have c2 := (hSw.cell (p := ⟨bu, off + i * 3 + 2, none⟩) hbu).trans c2; go_simp; try (with_reducible rfl))
        try simp only [Act.put, List.setIfInBounds_toArray, List.set_cons_zero, List.set_cons_succ]
        refine wpAnyS_take (i := 6) (oi := ⟨_, _, _, _, _, _⟩) (v := ?_) rfl (fun _ => trivial) (by kernel_rfl) (by kernel_rfl) (by kernel_rfl) (by kernel_rfl) (fun _ _ _ h => h) (Or.inl ⟨by rfl, ?_⟩) hHeld ?_
        rotate_left
        · (intro w hSw; (try dsimp only at hSw); go_simp; try (with_reducible rfl))
        try simp only [Act.put, List.setIfInBounds_toArray, List.set_cons_zero, List.set_cons_succ]
        refine wpAnyS_take (i := 7) (oi := ⟨_, _, _, _, _, _⟩) (v := ?_) rfl (fun _ => trivial) (by kernel_rfl) (by kernel_rfl) (by kernel_rfl) (by kernel_rfl) (fun _ _ _ h => h) (Or.inl ⟨by rfl, ?_⟩) hHeld ?_
        rotate_left
        · (intro w hSw; (try dsimp only at hSw); go_simp; try (with_reducible rfl))
        try simp only [Act.put, List.setIfInBounds_toArray, List.set_cons_zero, List.set_cons_succ]
        refine wpAnyS_take (i := 8) (oi := ⟨_, _, _, _, _, _⟩) (v := ?_) rfl (fun _ => trivial) (by kernel_rfl) (by kernel_rfl) (by kernel_rfl) (by kernel_rfl) (fun _ _ _ h => h) (Or.inl ⟨by rfl, ?_⟩) hHeld ?_
        rotate_left
        · (intro w hSw; (try dsimp only at hSw); go_simp; try (with_reducible rfl))
        try simp only [Act.put, List.setIfInBounds_toArray, List.set_cons_zero, List.set_cons_succ]
        refine wpAnyS_take (i := 9) (oi := ⟨_, _, _, _, _, _⟩) (v := ?_) rfl (fun _ => trivial) (by kernel_rfl) (by kernel_rfl) (by kernel_rfl) (by kernel_rfl) (fun _ _ _ h => h) (Or.inl ⟨by rfl, ?_⟩) hHeld ?_
        rotate_left
        · (intro w hSw; (try dsimp only at hSw); go_simp; try (with_reducible rfl))
        try simp only [Act.put, List.setIfInBounds_toArray, List.set_cons_zero, List.set_cons_succ]
        refine wpAnyS_take (i := 10) (oi := ⟨_, _, _, _, _, _⟩) (v := ?_) rfl (fun _ => trivial) (by kernel_rfl) (by kernel_rfl) (by kernel_rfl) (by kernel_rfl) (fun _ _ _ h => h) (Or.inl ⟨by rfl, ?_⟩) hHeld ?_
        rotate_left
        · (intro w hSw; (try dsimp only at hSw); go_simp; try (with_reducible rfl))
        try simp only [Act.put, List.setIfInBounds_toArray, List.set_cons_zero, List.set_cons_succ]
        refine wpAnyS_take (i := 11) (oi := ⟨_, _, _, _, _, _⟩) (v := ?_) rfl (fun _ => trivial) (by kernel_rfl) (by kernel_rfl) (by kernel_rfl) (by kernel_rfl) (fun _ _ _ h => h) (Or.inl ⟨by rfl, ?_⟩) hHeld ?_
        rotate_left
        · (intro w hSw; (try dsimp only at hSw); have c1 := (hSw.cell (p := ⟨bu, off + i * 3 + 1, none⟩) hbu).trans c1; have c2 := (hSw.cell (p := ⟨bu, off + i * 3 + 2, none⟩) hbu).trans c2; go_simp; try (with_reducible rfl))
        try simp only [Act.put, List.setIfInBounds_toArray, List.set_cons_zero, List.set_cons_succ]
        refine wpAnyS_take (i := 12) (oi := ⟨_, _, _, _, _, _⟩) (v := ?_) rfl (fun _ => trivial) (by kernel_rfl) (by kernel_rfl) (by kernel_rfl) (by kernel_rfl) (fun _ _ _ h => h) (Or.inl ⟨by rfl, ?_⟩) hHeld ?_
        rotate_left
        · (intro w hSw; (try dsimp only at hSw); go_simp; try (with_reducible rfl))
        try simp only [Act.put, List.setIfInBounds_toArray, List.set_cons_zero, List.set_cons_succ]
        refine wpAnyS_take (i := 13) (oi := ⟨_, _, _, _, _, _⟩) (v := ?_) rfl (fun _ => trivial) (by kernel_rfl) (by kernel_rfl) (by kernel_rfl) (by kernel_rfl) (fun _ _ _ h => h) (Or.inl ⟨by rfl, ?_⟩) hHeld ?_
        rotate_left
        · (intro w hSw; (try dsimp only at hSw); go_simp; try (with_reducible rfl))
        try simp only [Act.put, List.setIfInBounds_toArray, List.set_cons_zero, List.set_cons_succ]
        refine wpAnyS_done (by kernel_rfl) ?_ _
        have hb6 : Below wr.heap.size wr (wr.alloc (.cells #[.int .i64 (a*(ut-u0)), .int .i64 (b*(ut-u0))] 51)).drew := (below_new _ _).drew
        have hv := flow_amts (m := ut - u0) Hsp.out hdy (by omega) (by omega)
        have e1 := w64 (x := a * (ut - u0)) (by have := hv.1.1; have := hv.1.2; simp only at *; omega)
        have e2 := w64 (x := b * (ut - u0)) (by have := hv.2.1; have := hv.2.2; simp only at *; omega)
        have h126 : At (wr.alloc (.cells #[.int .i64 (a*(ut-u0)), .int .i64 (b*(ut-u0))] 51)).drew wr.heap.size [.int .i64 (a * (ut - u0)), .int .i64 (b * (ut - u0))] := (At.new wr #[.int .i64 (a*(ut-u0)), .int .i64 (b*(ut-u0))] _ _ rfl _ rfl).drew
        have g126 : ∀ j : Nat, (wr.alloc (.cells #[.int .i64 (a*(ut-u0)), .int .i64 (b*(ut-u0))] 51)).drew.frozen? ⟨wr.heap.size, j, none⟩ = false := fun j => At.frozen_new wr _ _ _ rfl j
        obtain ⟨w6, Hw6⟩ : ∃ w6, Hid ((wr.alloc (.cells #[.int .i64 (a*(ut-u0)), .int .i64 (b*(ut-u0))] 51)).drew = w6) := ⟨_, hide rfl⟩
        obtain ⟨p0, p1⟩ := HC.out.flw.c2
        rw [Hw6.out] at hb6 h126 g126
        have HC6 := hide (HC.out.below hb6)
        have c06 := (hb6.cell (p := ⟨bu, off + i * 3, none⟩) hbu).trans c0
        have hgfr := (own_block HC.out.of (g := gf) rfl).2
        have hglr := (own_block HC.out.ol (g := gl) rfl).2
        have hbu6 : bu < w6.heap.size := Nat.lt_of_lt_of_le hbu hb6.size
        have HN6 := hide (Hnet.out.below HC6.out.bl)
        have HU6 := hide ((Hus.out.below HC6.out.bl).more HC6.out.bl.size)
        rw [wrapI (x := ut - u0) (by omega)]
        have Hv := hide hv; have E1 := hide e1; have E2 := hide e2; have H126 := hide h126; have G126 := hide g126; have Hb6 := hide hb6
        clear hv e1 e2 h126 g126 c1 c2 hHeld hb6
        gi_wp2_with fail
        rw [E1.out, E2.out, Hw6.out]
        refine wpIn_mono (Q := onNormal (fun a' W => ∃ va vd, a'.tmps.size = 125 ∧ a'.defers = [] ∧ slot a' 2 = .slice (some ⟨bu, off, none⟩) nu cu ∧ slot a' 3 = .pointer (some ⟨w.heap.size, 0, none⟩) ∧ slot a' 4 = .pointer (some ⟨w.heap.size + 1, 0, none⟩) ∧ slot a' 8 = .slice (some ⟨gf, 0, none⟩) nf nf ∧ slot a' 9 = .slice (some ⟨gl, 0, none⟩) nc nc ∧ slot a' 10 = .int .i64 i ∧ slot a' 12 = .pointer (some ⟨wr.heap.size, 0, none⟩) ∧ slot a' 13 = va ∧ slot a' 14 = vd ∧ Own W w6.heap.size 3 1 icell va (pathK cs fs uf) ∧ Own W w6.heap.size 3 1 icell vd (dryR cs fs dry (days * 1440) us i) ∧ Below w6.heap.size w6 W)) ?_ ?_
        · clear c0 p0 p1
          refine wpIn_region_S (S := (fun W => Below w6.heap.size w6 W)) (z := 13) (by kernel_rfl) (by (try dsimp only); exact (Below.refl _ _).drew) (fun hHeld => ?_)
          refine wpAnyS_take (i := 0) (oi := ⟨_, _, _, _, _, _⟩) (v := ?_) rfl (fun _ => trivial) (by kernel_rfl) (by kernel_rfl) (by kernel_rfl) (by kernel_rfl) (fun _ _ _ h => h) (Or.inl ⟨by rfl, ?_⟩) hHeld ?_
          rotate_left
          · (intro w hSw; (try dsimp only at hSw); obtain ⟨q0, q1, q2, q3⟩ := (HC6.out.net.below hSw).c4; have c0 := (hSw.cell (p := ⟨bu, off + i * 3, none⟩) hbu6).trans c06; go_simp; try (with_reducible rfl))
          try simp only [Act.put, List.setIfInBounds_toArray, List.set_cons_zero, List.set_cons_succ]
          refine wpAnyS_take (i := 1) (oi := ⟨_, _, _, _, _, _⟩) (v := ?_) rfl (fun _ => trivial) (by kernel_rfl) (by kernel_rfl) (by kernel_rfl) (by kernel_rfl) (fun _ _ _ h => h) (Or.inl ⟨by rfl, ?_⟩) hHeld ?_
          rotate_left
          · (intro w hSw; (try dsimp only at hSw); go_simp; try (with_reducible rfl))
          try simp only [Act.put, List.setIfInBounds_toArray, List.set_cons_zero, List.set_cons_succ]
          refine wpAnyS_take (i := 2) (oi := ⟨_, _, _, _, _, _⟩) (v := ?_) rfl (fun _ => trivial) (by kernel_rfl) (by kernel_rfl) (by kernel_rfl) (by kernel_rfl) (fun _ _ _ h => h) (Or.inl ⟨by rfl, ?_⟩) hHeld ?_
          rotate_left
          · (intro w hSw; (try dsimp only at hSw); go_simp; try (with_reducible rfl))
          try simp only [Act.put, List.setIfInBounds_toArray, List.set_cons_zero, List.set_cons_succ]
          refine wpAnyS_take (i := 3) (oi := ⟨_, _, _, _, _, _⟩) (v := ?_) rfl (fun _ => trivial) (by kernel_rfl) (by kernel_rfl) (by kernel_rfl) (by kernel_rfl) (fun _ _ _ h => h) (Or.inl ⟨by rfl, ?_⟩) hHeld ?_
          rotate_left
          · (intro w hSw; (try dsimp only at hSw); go_simp; try (with_reducible rfl))
          try simp only [Act.put, List.setIfInBounds_toArray, List.set_cons_zero, List.set_cons_succ]
          refine wpAnyS_take (i := 4) (oi := ⟨_, _, _, _, _, _⟩) (v := ?_) rfl (fun _ => trivial) (by kernel_rfl) (by kernel_rfl) (by kernel_rfl) (by kernel_rfl) (fun _ _ _ h => h) (Or.inl ⟨by rfl, ?_⟩) hHeld ?_
          rotate_left
          · (intro w hSw; (try dsimp only at hSw); go_simp; try (with_reducible rfl))
          try simp only [Act.put, List.setIfInBounds_toArray, List.set_cons_zero, List.set_cons_succ]
          refine wpAnyS_take (i := 5) (oi := ⟨_, _, _, _, _, _⟩) (v := ?_) rfl (fun _ => trivial) (by kernel_rfl) (by kernel_rfl) (by kernel_rfl) (by kernel_rfl) (fun _ _ _ h => h) (Or.inl ⟨by rfl, ?_⟩) hHeld ?_
          rotate_left
          · (intro w hSw; (try dsimp only at hSw); obtain ⟨q0, q1, q2, q3⟩ := (HC6.out.net.below hSw).c4; have c0 := (hSw.cell (p := ⟨bu, off + i * 3, none⟩) hbu6).trans c06; go_simp; try (with_reducible rfl))
          try simp only [Act.put, List.setIfInBounds_toArray, List.set_cons_zero, List.set_cons_succ]
          refine wpAnyS_take (i := 7) (oi := ⟨_, _, _, _, _, _⟩) (v := ?_) rfl (fun _ => trivial) (by kernel_rfl) (by kernel_rfl) (by kernel_rfl) (by kernel_rfl) (fun _ _ _ h => h) (Or.inl ⟨by rfl, ?_⟩) hHeld ?_
          rotate_left
          · (intro w hSw; (try dsimp only at hSw); obtain ⟨q0, q1, q2, q3⟩ := (HC6.out.net.below hSw).c4; have c0 := (hSw.cell (p := ⟨bu, off + i * 3, none⟩) hbu6).trans c06; go_simp; try (with_reducible rfl))
          try simp only [Act.put, List.setIfInBounds_toArray, List.set_cons_zero, List.set_cons_succ]
          refine wpAnyS_take (i := 8) (oi := ⟨_, _, _, _, _, _⟩) (v := ?_) rfl (fun _ => trivial) (by kernel_rfl) (by kernel_rfl) (by kernel_rfl) (by kernel_rfl) (fun _ _ _ h => h) (Or.inl ⟨by rfl, ?_⟩) hHeld ?_
          rotate_left
          · (intro w hSw; (try dsimp only at hSw); go_simp; try (with_reducible rfl))
          try simp only [Act.put, List.setIfInBounds_toArray, List.set_cons_zero, List.set_cons_succ]
          refine wpAnyS_take (i := 9) (oi := ⟨_, _, _, _, _, _⟩) (v := ?_) rfl (fun _ => trivial) (by kernel_rfl) (by kernel_rfl) (by kernel_rfl) (by kernel_rfl) (fun _ _ _ h => h) (Or.inl ⟨by rfl, ?_⟩) hHeld ?_
          rotate_left
          · (intro w hSw; (try dsimp only at hSw); go_simp; try (with_reducible rfl))
          try simp only [Act.put, List.setIfInBounds_toArray, List.set_cons_zero, List.set_cons_succ]
          refine wpAnyS_ready (rs := [6]) (by kernel_rfl) (by simp) ?_
          refine AllS.cons (o := ⟨_, _, _, _, _, _⟩) rfl (fun _ => trivial) (fun K hK => ?_) AllS.nil
          go_simp
          refine wcall ((rPath_any Ac Af nc cc nf cf dry days cs fs uf _ (HN6.out.below hHeld) Hok.out f0 f1).mono ?_)
          rintro e w' ⟨va, rfl, hoa, hb⟩
          have hoa := hide (hoa.mono hHeld.size)
          try (have hod := hide (hod.out.below hb))
          gi_wp2_with fail
          refine hK.out _ _ ?_ (fun hHeld2 => ?_)
          · intro _; (try dsimp only)
            (first | exact hHeld | exact hHeld.trans (hb.mono hHeld.size) | exact hHeld.trans ((below_new _ _).mono hHeld.size) | exact hHeld.drew)
          clear hK K hHeld; have hHeld := hHeld2 (by decide); clear hHeld2
          try simp only [Act.put, List.setIfInBounds_toArray, List.set_cons_zero, List.set_cons_succ]
          refine wpAnyS_ready (rs := [10]) (by kernel_rfl) (by simp) ?_
          refine AllS.cons (o := ⟨_, _, _, _, _, _⟩) rfl (fun _ => trivial) (fun K hK => ?_) AllS.nil
          go_simp
          refine wcall ((rDries_any Ac Af (some ⟨bu, off, none⟩) nc cc nf cf nu cu dry days cs fs us i _ (HN6.out.below hHeld) ((HU6.out.below hHeld).more hHeld.size) Hnu.out Hok.out Huo.out hlt).mono ?_)
          rintro e w' ⟨vd, rfl, hod, hb⟩
          have hod := hide (hod.mono hHeld.size)
          try (have hoa := hide (hoa.out.below hb))
          gi_wp2_with fail
          refine hK.out _ _ ?_ (fun hHeld2 => ?_)
          · intro _; (try dsimp only)
            (first | exact hHeld | exact hHeld.trans (hb.mono hHeld.size) | exact hHeld.trans ((below_new _ _).mono hHeld.size) | exact hHeld.drew)
          clear hK K hHeld; have hHeld := hHeld2 (by decide); clear hHeld2
          try simp only [Act.put, List.setIfInBounds_toArray, List.set_cons_zero, List.set_cons_succ]
          refine wpAnyS_take (i := 11) (oi := ⟨_, _, _, _, _, _⟩) (v := ?_) rfl (fun _ => trivial) (by kernel_rfl) (by kernel_rfl) (by kernel_rfl) (by kernel_rfl) (fun _ _ _ h => h) (Or.inl ⟨by rfl, ?_⟩) hHeld ?_
          rotate_left
          · (intro w hSw; (try dsimp only at hSw); go_simp; try (with_reducible rfl))
          try simp only [Act.put, List.setIfInBounds_toArray, List.set_cons_zero, List.set_cons_succ]
          refine wpAnyS_take (i := 12) (oi := ⟨_, _, _, _, _, _⟩) (v := ?_) rfl (fun _ => trivial) (by kernel_rfl) (by kernel_rfl) (by kernel_rfl) (by kernel_rfl) (fun _ _ _ h => h) (Or.inl ⟨by rfl, ?_⟩) hHeld ?_
          rotate_left
          · (intro w hSw; (try dsimp only at hSw); go_simp; try (with_reducible rfl))
          try simp only [Act.put, List.setIfInBounds_toArray, List.set_cons_zero, List.set_cons_succ]
          refine wpAnyS_done (by kernel_rfl) ?_ _
          exact ⟨va, vd, by first | rfl | trivial, by first | rfl | trivial, by first | rfl | trivial, by first | rfl | trivial, by first | rfl | trivial, by first | rfl | trivial, by first | rfl | trivial, by first | rfl | trivial, by first | rfl | trivial, by first | rfl | trivial, by first | rfl | trivial, hoa.out, hod.out, hHeld⟩
        rintro e a' w7 hq
        cases e with
        | normal =>
          obtain ⟨va, vd, hs, hd, s2, s3, s4, s8, s9, s10, s12, s13, s14, hoa, hod, hB7⟩ := hq
          rw [← dry_eq Hok.out Huo.out] at hod
          obtain ⟨Ap, cp, rfl, hrp⟩ := hoa.rd
          obtain ⟨Ad, cd, rfl, hrd⟩ := hod.rd
          obtain ⟨m, hm⟩ : ∃ m, m = (pathK cs fs uf).length := ⟨_, rfl⟩
          obtain ⟨nd, hnd⟩ : ∃ nd, nd = (dryL cs fs dry (days * 1440) us i).length := ⟨_, rfl⟩
          rw [← hm] at s13
          rw [← hnd] at s14
          rw [← hm] at hoa
          rw [← hnd] at hod
          rw [act_eq hs hd]
          obtain ⟨u, hu⟩ : ∃ u, u = slot a' := ⟨_, rfl⟩
          rw [← hu] at s2 s3 s4 s8 s9 s10 s12 s13 s14 ⊢
          have he : ({ tmps := ((List.range 125).map u).toArray, defers := [] } : Act) = { tmps := #[(u 0), (u 1), (u 2), (u 3), (u 4), (u 5), (u 6), (u 7), (u 8), (u 9), (u 10), (u 11), (u 12), (u 13), (u 14), (u 15), (u 16), (u 17), (u 18), (u 19), (u 20), (u 21), (u 22), (u 23), (u 24), (u 25), (u 26), (u 27), (u 28), (u 29), (u 30), (u 31), (u 32), (u 33), (u 34), (u 35), (u 36), (u 37), (u 38), (u 39), (u 40), (u 41), (u 42), (u 43), (u 44), (u 45), (u 46), (u 47), (u 48), (u 49), (u 50), (u 51), (u 52), (u 53), (u 54), (u 55), (u 56), (u 57), (u 58), (u 59), (u 60), (u 61), (u 62), (u 63), (u 64), (u 65), (u 66), (u 67), (u 68), (u 69), (u 70), (u 71), (u 72), (u 73), (u 74), (u 75), (u 76), (u 77), (u 78), (u 79), (u 80), (u 81), (u 82), (u 83), (u 84), (u 85), (u 86), (u 87), (u 88), (u 89), (u 90), (u 91), (u 92), (u 93), (u 94), (u 95), (u 96), (u 97), (u 98), (u 99), (u 100), (u 101), (u 102), (u 103), (u 104), (u 105), (u 106), (u 107), (u 108), (u 109), (u 110), (u 111), (u 112), (u 113), (u 114), (u 115), (u 116), (u 117), (u 118), (u 119), (u 120), (u 121), (u 122), (u 123), (u 124)], defers := [] } := rfl
          rw [he, s2, s3, s4, s8, s9, s10, s12, s13, s14]
          clear he hs hd hu s2 s3 s4 s8 s9 s10 s12 s13 s14
          have Hpl := hide (pathK_len cs fs Hok.out (k := uf) f0 (by rw [← Hnet.out.ef]; exact f1))
          have hm16 : m ≤ 16 := by have := Hpl.out; omega
          have Hpr := hide (fun (x : Int) (hx : x ∈ pathK cs fs uf) => show 0 ≤ x ∧ x < cs.length from by
            have h : x ∈ upK cs fs uf := by simpa [pathK, pathF, upK] using hx
            exact upK_okI Hok.out (k := uf) f0 (by rw [← Hnet.out.ef]; exact f1) h)
          have Hdl := hide (show (dryL cs fs dry (days * 1440) us i).length ≤ 16 by unfold dryL; rw [HX.out]; exact Nat.le_trans (drySt_len _ _ _ _) Hpl.out)
          have Hm := hide hm; have Hnd := hide hnd; have Hp := hide hoa; have Hd := hide hod
          have HC7 := hide (HC6.out.below hB7)
          have H127 := hide (H126.out.below hB7)
          have G127 := hide (frz_below G126.out H126.out.1 hB7)
          have hs67 := hB7.size
          have h6r : wr.heap.size < w6.heap.size := H126.out.1
          have hgf7 : gf < wr.heap.size := by
            have h := (own_block HC6.out.of (g := gf) rfl).2
            have h2 := hgfr
            omega
          have hgl7 : gl < wr.heap.size := by
            have h2 := hglr
            omega
          have c07 := (hB7.cell (p := ⟨bu, off + i * 3, none⟩) hbu6).trans c06
          clear hoa hod hrp hrd hm hnd c06 p0 p1
          gi_wp2_with fail
          refine wpIn_loop_rounds (m + 1) (rounds_of (fun r a1 wq => ∃ j : Nat, j + r = m + 1 ∧ j ≤ m ∧ a1.tmps.size = 125 ∧ a1.defers = [] ∧ slot a1 2 = .slice (some ⟨bu, off, none⟩) nu cu ∧ slot a1 3 = .pointer (some ⟨w.heap.size, 0, none⟩) ∧ slot a1 4 = .pointer (some ⟨w.heap.size + 1, 0, none⟩) ∧ slot a1 8 = .slice (some ⟨gf, 0, none⟩) nf nf ∧ slot a1 9 = .slice (some ⟨gl, 0, none⟩) nc nc ∧ slot a1 10 = .int .i64 i ∧ slot a1 12 = .pointer (some ⟨wr.heap.size, 0, none⟩) ∧ slot a1 13 = .slice Ap m cp ∧ slot a1 14 = .slice Ad nd cd ∧ slot a1 15 = .int .i64 j ∧ RC w [.slice Ac nc cc, .slice Af nf cf, .int .i64 dry, .int .i64 days] a b nf nc gf gl (watersK cs fs dry (days * 1440) a b us i).1 (pathW cs (dryL cs fs dry (days * 1440) us i) ((pathK cs fs uf).take j) (watersK cs fs dry (days * 1440) a b us i).2 ⟨a * (ut - u0), b * (ut - u0)⟩).1 wq ∧
            At wq wr.heap.size [.int .i64 (pathW cs (dryL cs fs dry (days * 1440) us i) ((pathK cs fs uf).take j) (watersK cs fs dry (days * 1440) a b us i).2 ⟨a * (ut - u0), b * (ut - u0)⟩).2.lo, .int .i64 (pathW cs (dryL cs fs dry (days * 1440) us i) ((pathK cs fs uf).take j) (watersK cs fs dry (days * 1440) a b us i).2 ⟨a * (ut - u0), b * (ut - u0)⟩).2.hi] ∧ (∀ j : Nat, wq.frozen? ⟨wr.heap.size, j, none⟩ = false) ∧ Kept (fun x => x < w7.heap.size ∧ ¬ x = gl ∧ ¬ x = wr.heap.size) w7 wq) ?_ ?_ (m + 1) _ _ ⟨0, by omega, by omega, by first | rfl | trivial, by first | rfl | trivial, by first | rfl | trivial, by first | rfl | trivial, by first | rfl | trivial, by first | rfl | trivial, by first | rfl | trivial, by first | rfl | trivial, by first | rfl | trivial, by first | rfl | trivial, by first | rfl | trivial, by first | rfl | trivial, HC7.out, H127.out, G127.out, Kept.refl _ _⟩)
          · rintro a wr ⟨j, hj, hj2, _⟩
            omega
          · clear HC7 H127 G127
            rintro r a1 wq ⟨j, hjr, hj, hs, hd, s2, s3, s4, s8, s9, s10, s12, s13, s14, s15, hCq, h12, g12, hKq⟩
            rw [act_eq hs hd]
            obtain ⟨u, hu⟩ : ∃ u, u = slot a1 := ⟨_, rfl⟩
            rw [← hu] at s2 s3 s4 s8 s9 s10 s12 s13 s14 s15 ⊢
            have he : ({ tmps := ((List.range 125).map u).toArray, defers := [] } : Act) = { tmps := #[(u 0), (u 1), (u 2), (u 3), (u 4), (u 5), (u 6), (u 7), (u 8), (u 9), (u 10), (u 11), (u 12), (u 13), (u 14), (u 15), (u 16), (u 17), (u 18), (u 19), (u 20), (u 21), (u 22), (u 23), (u 24), (u 25), (u 26), (u 27), (u 28), (u 29), (u 30), (u 31), (u 32), (u 33), (u 34), (u 35), (u 36), (u 37), (u 38), (u 39), (u 40), (u 41), (u 42), (u 43), (u 44), (u 45), (u 46), (u 47), (u 48), (u 49), (u 50), (u 51), (u 52), (u 53), (u 54), (u 55), (u 56), (u 57), (u 58), (u 59), (u 60), (u 61), (u 62), (u 63), (u 64), (u 65), (u 66), (u 67), (u 68), (u 69), (u 70), (u 71), (u 72), (u 73), (u 74), (u 75), (u 76), (u 77), (u 78), (u 79), (u 80), (u 81), (u 82), (u 83), (u 84), (u 85), (u 86), (u 87), (u 88), (u 89), (u 90), (u 91), (u 92), (u 93), (u 94), (u 95), (u 96), (u 97), (u 98), (u 99), (u 100), (u 101), (u 102), (u 103), (u 104), (u 105), (u 106), (u 107), (u 108), (u 109), (u 110), (u 111), (u 112), (u 113), (u 114), (u 115), (u 116), (u 117), (u 118), (u 119), (u 120), (u 121), (u 122), (u 123), (u 124)], defers := [] } := rfl
            rw [he, s2, s3, s4, s8, s9, s10, s12, s13, s14, s15]
            clear he hs hd hu s2 s3 s4 s8 s9 s10 s12 s13 s14 s15
            have HCq := hide hCq; have H12 := hide h12; have G12 := hide g12; have HKq := hide hKq
            clear hCq h12 g12 hKq
            obtain ⟨V, hV⟩ : ∃ V, V = (pathW cs (dryL cs fs dry (days * 1440) us i) ((pathK cs fs uf).take j) (watersK cs fs dry (days * 1440) a b us i).2 ⟨a * (ut - u0), b * (ut - u0)⟩).2 := ⟨_, rfl⟩
            obtain ⟨LL, hLL⟩ : ∃ LL, LL = (pathW cs (dryL cs fs dry (days * 1440) us i) ((pathK cs fs uf).take j) (watersK cs fs dry (days * 1440) a b us i).2 ⟨a * (ut - u0), b * (ut - u0)⟩).1 := ⟨_, rfl⟩
            have hwb := watersK_bd (a := a) (b := b) Hok.out (by rw [← Hnet.out.ef]; exact Huo.out) Hsp.out i (by have := Hnu.out; omega)
            have hbd := pathW_amts Hok.out (dryL cs fs dry (days * 1440) us i) (pathK cs fs uf) (watersK cs fs dry (days * 1440) a b us i).2 Hv.out (M := i * 16000000000000) (by omega) hwb.2.1 j (by have := Hm.out; omega)
            rw [← hV, ← hLL, hwb.2.2.2] at hbd
            rw [← hV] at H12
            rw [← hLL] at HCq
            obtain ⟨v0, v1⟩ := V
            dsimp only at H12
            have HV := hide hV; have HLL := hide hLL; have HVa := hide hbd.1; have Hbd := hide hbd; have Hwb := hide hwb
            clear hV hLL hbd hwb
            by_cases hlt : j < m
            · have hpq := Hp.out.keptB HKq.out (fun g hg => by have := (own_block Hp.out hg).1; have := (own_block Hp.out hg).2; omega)
              have hdq := Hd.out.keptB HKq.out (fun g hg => by have := (own_block Hd.out hg).1; have := (own_block Hd.out hg).2; omega)
              have hpr := (hpq.rdv).2
              have hdr := (hdq.rdv).2
              obtain ⟨bp, offp, c, rfl, hbp, hxc, cp0⟩ := hpr.int (i := j) (by rw [← Hm.out]; exact hlt)
              obtain ⟨cc0, cc1⟩ := Hpr.out c (List.mem_of_getElem? hxc)
              obtain ⟨cn, rfl⟩ : ∃ cn : Nat, c = cn := ⟨c.toNat, by omega⟩
              have hcn : cn < cs.length := by omega
              obtain ⟨bc, offc, cf0, s0, s1, l0, l1, rfl, hbc, hca, e0, e1, e2, e3, e4⟩ := (Hnet.out.below HCq.out.bl).rc.ca (i := cn) hcn
              have hcb := (caAll_iff 0 cs).1 (netOk_parts Hok.out).2.2.2.2.2.1 _ _ hca
              simp only [caOk, inB, Sp.ok, Bool.and_eq_true, decide_eq_true_eq] at hcb
              obtain ⟨_, ⟨⟨B0, B1⟩, B2⟩, ⟨B3, B4⟩, B5⟩ := hcb
              have hwk : wkAt cs (dryL cs fs dry (days * 1440) us i) cn = (wkF ⟨s0, s1⟩ ⟨l0, l1⟩ (decide ((cn : Int) ∈ dryL cs fs dry (days * 1440) us i))) := by
                unfold wkAt
                rw [Int.toNat_natCast, hca]
              have hwf := wkAt_wf Hok.out (dryL cs fs dry (days * 1440) us i) cn
              rw [hwk] at hwf
              have hn1 := Hnet.out.ec
              have i0 : (0 : Int) ≤ (j : Int) := by omega
              have i1 : (j : Int) < (m : Int) := by omega
              have i2 : (cn : Int) < (nc : Int) := by omega
              have Hdry := hide hdr; have Hdn := Hnd; have Hxc := hide hxc; have Hwk := hide hwk; have Hca := hide hca; have Hn1 := hide hn1; have Hwf := hide hwf
              clear hpq hdq hdr hpr hxc hwk hca hn1 hwf
              gi_wp2_with fail
              refine wpIn_mono (Q := onNormal (fun a1 W1 => ∃ b16 b17 : Nat, a1.tmps.size = 125 ∧ a1.defers = [] ∧ slot a1 2 = .slice (some ⟨bu, off, none⟩) nu cu ∧ slot a1 3 = .pointer (some ⟨w.heap.size, 0, none⟩) ∧ slot a1 4 = .pointer (some ⟨w.heap.size + 1, 0, none⟩) ∧ slot a1 8 = .slice (some ⟨gf, 0, none⟩) nf nf ∧ slot a1 9 = .slice (some ⟨gl, 0, none⟩) nc nc ∧ slot a1 10 = .int .i64 i ∧ slot a1 12 = .pointer (some ⟨wr.heap.size, 0, none⟩) ∧ slot a1 13 = .slice (some ⟨bp, offp, none⟩) m cp ∧ slot a1 14 = .slice Ad nd cd ∧ slot a1 15 = .int .i64 j ∧ slot a1 16 = .pointer (some ⟨b16, 0, none⟩) ∧ slot a1 17 = .pointer (some ⟨b17, 0, none⟩) ∧ At W1 b16 [.int .i64 (goF (wkF ⟨s0, s1⟩ ⟨l0, l1⟩ (decide ((cn : Int) ∈ dryL cs fs dry (days * 1440) us i))) ⟨v0, v1⟩).lo, .int .i64 (goF (wkF ⟨s0, s1⟩ ⟨l0, l1⟩ (decide ((cn : Int) ∈ dryL cs fs dry (days * 1440) us i))) ⟨v0, v1⟩).hi] ∧ At W1 b17 [.int .i64 (seF (wkF ⟨s0, s1⟩ ⟨l0, l1⟩ (decide ((cn : Int) ∈ dryL cs fs dry (days * 1440) us i))) ⟨v0, v1⟩).lo, .int .i64 (seF (wkF ⟨s0, s1⟩ ⟨l0, l1⟩ (decide ((cn : Int) ∈ dryL cs fs dry (days * 1440) us i))) ⟨v0, v1⟩).hi] ∧ wq.heap.size ≤ b16 ∧ wq.heap.size ≤ b17 ∧ Below wq.heap.size wq W1)) ?_ ?_
              · refine wpIn_region_S (S := (fun W => Below wq.heap.size wq W)) (z := 23) (by kernel_rfl) (by (try dsimp only); exact (Below.refl _ _).drew) (fun hHeld => ?_)
                refine wpAnyS_take (i := 0) (oi := ⟨_, _, _, _, _, _⟩) (v := ?_) rfl (fun _ => trivial) (by kernel_rfl) (by kernel_rfl) (by kernel_rfl) (by kernel_rfl) (fun _ _ _ h => h) (Or.inl ⟨by rfl, ?_⟩) hHeld ?_
                rotate_left
                · (intro w hSw; (try dsimp only at hSw); go_simp; try (with_reducible rfl))
                try simp only [Act.put, List.setIfInBounds_toArray, List.set_cons_zero, List.set_cons_succ]
                refine wpAnyS_take (i := 1) (oi := ⟨_, _, _, _, _, _⟩) (v := ?_) rfl (fun _ => trivial) (by kernel_rfl) (by kernel_rfl) (by kernel_rfl) (by kernel_rfl) (fun _ _ _ h => h) (Or.inl ⟨by rfl, ?_⟩) hHeld ?_
                rotate_left
                · (intro w hSw; (try dsimp only at hSw); have hSq := hSw; obtain ⟨q0, q1, q2, q3⟩ := (HCq.out.net.below hSq).c4; obtain ⟨o0, o1⟩ := (H12.out.below hSq).c2; have c0 := (hSq.cell (p := ⟨bp, offp + j, none⟩) hbp).trans cp0; have e0 := (hSq.cell (p := ⟨bc, offc + cn * 5, none⟩) hbc).trans e0; have e1 := (hSq.cell (p := ⟨bc, offc + cn * 5 + 1, none⟩) hbc).trans e1; have e2 := (hSq.cell (p := ⟨bc, offc + cn * 5 + 2, none⟩) hbc).trans e2; have e3 := (hSq.cell (p := ⟨bc, offc + cn * 5 + 3, none⟩) hbc).trans e3; have e4 := (hSq.cell (p := ⟨bc, offc + cn * 5 + 4, none⟩) hbc).trans e4; go_simp; try (with_reducible rfl))
                try simp only [Act.put, List.setIfInBounds_toArray, List.set_cons_zero, List.set_cons_succ]
                refine wpAnyS_take (i := 2) (oi := ⟨_, _, _, _, _, _⟩) (v := ?_) rfl (fun _ => trivial) (by kernel_rfl) (by kernel_rfl) (by kernel_rfl) (by kernel_rfl) (fun _ _ _ h => h) (Or.inl ⟨by rfl, ?_⟩) hHeld ?_
                rotate_left
                · (intro w hSw; (try dsimp only at hSw); go_simp; try (with_reducible rfl))
                try simp only [Act.put, List.setIfInBounds_toArray, List.set_cons_zero, List.set_cons_succ]
                refine wpAnyS_take (i := 3) (oi := ⟨_, _, _, _, _, _⟩) (v := ?_) rfl (fun _ => trivial) (by kernel_rfl) (by kernel_rfl) (by kernel_rfl) (by kernel_rfl) (fun _ _ _ h => h) (Or.inl ⟨by rfl, ?_⟩) hHeld ?_
                rotate_left
                · (intro w hSw; (try dsimp only at hSw); go_simp; try (with_reducible rfl))
                try simp only [Act.put, List.setIfInBounds_toArray, List.set_cons_zero, List.set_cons_succ]
                refine wpAnyS_take (i := 4) (oi := ⟨_, _, _, _, _, _⟩) (v := ?_) rfl (fun _ => trivial) (by kernel_rfl) (by kernel_rfl) (by kernel_rfl) (by kernel_rfl) (fun _ _ _ h => h) (Or.inl ⟨by rfl, ?_⟩) hHeld ?_
                rotate_left
                · (intro w hSw; (try dsimp only at hSw); go_simp; try (with_reducible rfl))
                try simp only [Act.put, List.setIfInBounds_toArray, List.set_cons_zero, List.set_cons_succ]
                refine wpAnyS_take (i := 5) (oi := ⟨_, _, _, _, _, _⟩) (v := ?_) rfl (fun _ => trivial) (by kernel_rfl) (by kernel_rfl) (by kernel_rfl) (by kernel_rfl) (fun _ _ _ h => h) (Or.inl ⟨by rfl, ?_⟩) hHeld ?_
                rotate_left
                · (intro w hSw; (try dsimp only at hSw); have hSq := hSw; obtain ⟨q0, q1, q2, q3⟩ := (HCq.out.net.below hSq).c4; obtain ⟨o0, o1⟩ := (H12.out.below hSq).c2; have c0 := (hSq.cell (p := ⟨bp, offp + j, none⟩) hbp).trans cp0; have e0 := (hSq.cell (p := ⟨bc, offc + cn * 5, none⟩) hbc).trans e0; have e1 := (hSq.cell (p := ⟨bc, offc + cn * 5 + 1, none⟩) hbc).trans e1; have e2 := (hSq.cell (p := ⟨bc, offc + cn * 5 + 2, none⟩) hbc).trans e2; have e3 := (hSq.cell (p := ⟨bc, offc + cn * 5 + 3, none⟩) hbc).trans e3; have e4 := (hSq.cell (p := ⟨bc, offc + cn * 5 + 4, none⟩) hbc).trans e4; go_simp; try (with_reducible rfl))
                try simp only [Act.put, List.setIfInBounds_toArray, List.set_cons_zero, List.set_cons_succ]
                refine wpAnyS_take (i := 6) (oi := ⟨_, _, _, _, _, _⟩) (v := ?_) rfl (fun _ => trivial) (by kernel_rfl) (by kernel_rfl) (by kernel_rfl) (by kernel_rfl) (fun _ _ _ h => h) (Or.inl ⟨by rfl, ?_⟩) hHeld ?_
                rotate_left
                · (intro w hSw; (try dsimp only at hSw); go_simp; try (with_reducible rfl))
                try simp only [Act.put, List.setIfInBounds_toArray, List.set_cons_zero, List.set_cons_succ]
                refine wpAnyS_take (i := 7) (oi := ⟨_, _, _, _, _, _⟩) (v := ?_) rfl (fun _ => trivial) (by kernel_rfl) (by kernel_rfl) (by kernel_rfl) (by kernel_rfl) (fun _ _ _ h => h) (Or.inl ⟨by rfl, ?_⟩) hHeld ?_
                rotate_left
                · (intro w hSw; (try dsimp only at hSw); have hSq := hSw; obtain ⟨q0, q1, q2, q3⟩ := (HCq.out.net.below hSq).c4; obtain ⟨o0, o1⟩ := (H12.out.below hSq).c2; have c0 := (hSq.cell (p := ⟨bp, offp + j, none⟩) hbp).trans cp0; have e0 := (hSq.cell (p := ⟨bc, offc + cn * 5, none⟩) hbc).trans e0; have e1 := (hSq.cell (p := ⟨bc, offc + cn * 5 + 1, none⟩) hbc).trans e1; have e2 := (hSq.cell (p := ⟨bc, offc + cn * 5 + 2, none⟩) hbc).trans e2; have e3 := (hSq.cell (p := ⟨bc, offc + cn * 5 + 3, none⟩) hbc).trans e3; have e4 := (hSq.cell (p := ⟨bc, offc + cn * 5 + 4, none⟩) hbc).trans e4; go_simp; try (with_reducible rfl))
                try simp only [Act.put, List.setIfInBounds_toArray, List.set_cons_zero, List.set_cons_succ]
                refine wpAnyS_take (i := 8) (oi := ⟨_, _, _, _, _, _⟩) (v := ?_) rfl (fun _ => trivial) (by kernel_rfl) (by kernel_rfl) (by kernel_rfl) (by kernel_rfl) (fun _ _ _ h => h) (Or.inl ⟨by rfl, ?_⟩) hHeld ?_
                rotate_left
                · (intro w hSw; (try dsimp only at hSw); have hSq := hSw; obtain ⟨q0, q1, q2, q3⟩ := (HCq.out.net.below hSq).c4; obtain ⟨o0, o1⟩ := (H12.out.below hSq).c2; have c0 := (hSq.cell (p := ⟨bp, offp + j, none⟩) hbp).trans cp0; have e0 := (hSq.cell (p := ⟨bc, offc + cn * 5, none⟩) hbc).trans e0; have e1 := (hSq.cell (p := ⟨bc, offc + cn * 5 + 1, none⟩) hbc).trans e1; have e2 := (hSq.cell (p := ⟨bc, offc + cn * 5 + 2, none⟩) hbc).trans e2; have e3 := (hSq.cell (p := ⟨bc, offc + cn * 5 + 3, none⟩) hbc).trans e3; have e4 := (hSq.cell (p := ⟨bc, offc + cn * 5 + 4, none⟩) hbc).trans e4; go_simp; try (with_reducible rfl))
                try simp only [Act.put, List.setIfInBounds_toArray, List.set_cons_zero, List.set_cons_succ]
                refine wpAnyS_take (i := 9) (oi := ⟨_, _, _, _, _, _⟩) (v := ?_) rfl (fun _ => trivial) (by kernel_rfl) (by kernel_rfl) (by kernel_rfl) (by kernel_rfl) (fun _ _ _ h => h) (Or.inl ⟨by rfl, ?_⟩) hHeld ?_
                rotate_left
                · (intro w hSw; (try dsimp only at hSw); go_simp; try (with_reducible rfl))
                try simp only [Act.put, List.setIfInBounds_toArray, List.set_cons_zero, List.set_cons_succ]
                refine wpAnyS_take (i := 10) (oi := ⟨_, _, _, _, _, _⟩) (v := ?_) rfl (fun _ => trivial) (by kernel_rfl) (by kernel_rfl) (by kernel_rfl) (by kernel_rfl) (fun _ _ _ h => h) (Or.inl ⟨by rfl, ?_⟩) hHeld ?_
                rotate_left
                · (intro w hSw; (try dsimp only at hSw); go_simp; try (with_reducible rfl))
                try simp only [Act.put, List.setIfInBounds_toArray, List.set_cons_zero, List.set_cons_succ]
                refine wpAnyS_take (i := 11) (oi := ⟨_, _, _, _, _, _⟩) (v := ?_) rfl (fun _ => trivial) (by kernel_rfl) (by kernel_rfl) (by kernel_rfl) (by kernel_rfl) (fun _ _ _ h => h) (Or.inl ⟨by rfl, ?_⟩) hHeld ?_
                rotate_left
                · (intro w hSw; (try dsimp only at hSw); go_simp; try (with_reducible rfl))
                try simp only [Act.put, List.setIfInBounds_toArray, List.set_cons_zero, List.set_cons_succ]
                refine wpAnyS_take (i := 12) (oi := ⟨_, _, _, _, _, _⟩) (v := ?_) rfl (fun _ => trivial) (by kernel_rfl) (by kernel_rfl) (by kernel_rfl) (by kernel_rfl) (fun _ _ _ h => h) (Or.inl ⟨by rfl, ?_⟩) hHeld ?_
                rotate_left
                · (intro w hSw; (try dsimp only at hSw); go_simp; try (with_reducible rfl))
                try simp only [Act.put, List.setIfInBounds_toArray, List.set_cons_zero, List.set_cons_succ]
                refine wpAnyS_take (i := 13) (oi := ⟨_, _, _, _, _, _⟩) (v := ?_) rfl (fun _ => trivial) (by kernel_rfl) (by kernel_rfl) (by kernel_rfl) (by kernel_rfl) (fun _ _ _ h => h) (Or.inl ⟨by rfl, ?_⟩) hHeld ?_
                rotate_left
                · (intro w hSw; (try dsimp only at hSw); have hSq := hSw; obtain ⟨q0, q1, q2, q3⟩ := (HCq.out.net.below hSq).c4; obtain ⟨o0, o1⟩ := (H12.out.below hSq).c2; have c0 := (hSq.cell (p := ⟨bp, offp + j, none⟩) hbp).trans cp0; have e0 := (hSq.cell (p := ⟨bc, offc + cn * 5, none⟩) hbc).trans e0; have e1 := (hSq.cell (p := ⟨bc, offc + cn * 5 + 1, none⟩) hbc).trans e1; have e2 := (hSq.cell (p := ⟨bc, offc + cn * 5 + 2, none⟩) hbc).trans e2; have e3 := (hSq.cell (p := ⟨bc, offc + cn * 5 + 3, none⟩) hbc).trans e3; have e4 := (hSq.cell (p := ⟨bc, offc + cn * 5 + 4, none⟩) hbc).trans e4; go_simp; try (with_reducible rfl))
                try simp only [Act.put, List.setIfInBounds_toArray, List.set_cons_zero, List.set_cons_succ]
                refine wpAnyS_ready (rs := [14, 19, 20]) (by kernel_rfl) (by simp) ?_
                refine AllS.cons (o := ⟨_, _, _, _, _, _⟩) rfl (fun _ => trivial) (fun K hK => ?_) ?_
                ·
                  go_simp
                  refine wcall ((rHas_any _ _ _ _ (cn : Int) _ ((Hdry.out.below hHeld).more hHeld.size) Hdn.out (by have := Hdn.out; have := Hdl.out; omega)).mono ?_)
                  rintro e w' ⟨rfl, hw⟩
                  have hb := below_of_eq hw
                  clear hw
                  try (have h16 := h16.below hb)
                  try (have g16 := frz_below g16 h16b hb)
                  try (have h16b := Nat.lt_of_lt_of_le h16b hb.size)
                  try (have h17 := h17.below hb)
                  try (have g17 := frz_below g17 h17b hb)
                  try (have h17b := Nat.lt_of_lt_of_le h17b hb.size)
                  gi_wp2_with fail
                  refine hK.out _ _ ?_ (fun hHeld2 => ?_)
                  · intro _; (try dsimp only)
                    (first | exact hHeld | exact hHeld.trans (hb.mono hHeld.size) | exact hHeld.trans ((below_new _ _).mono hHeld.size) | exact hHeld.drew | exact (hHeld.setCell hge16 _).setCell hge16 _ | exact (hHeld.setCell hge17 _).setCell hge17 _)
                  clear hK K hHeld; have hHeld := hHeld2 (by decide); clear hHeld2
                  try simp only [Act.put, List.setIfInBounds_toArray, List.set_cons_zero, List.set_cons_succ]
                  refine wpAnyS_ready (rs := [15, 19, 20]) (by kernel_rfl) (by simp) ?_
                  refine AllS.cons (o := ⟨_, _, _, _, _, _⟩) rfl (fun _ => trivial) (fun K hK => ?_) ?_
                  ·
                    go_simp
                    refine wcall ((rThrough_any cf0 s0 s1 l0 l1 v0 v1 _ _ ⟨B0, B1, B2⟩ ⟨B3, B4, B5⟩ HVa.out).mono ?_)
                    rintro e w' ⟨rfl, hb⟩
                    try (have h16 := h16.below hb)
                    try (have g16 := frz_below g16 h16b hb)
                    try (have h16b := Nat.lt_of_lt_of_le h16b hb.size)
                    try (have h17 := h17.below hb)
                    try (have g17 := frz_below g17 h17b hb)
                    try (have h17b := Nat.lt_of_lt_of_le h17b hb.size)
                    gi_wp2_with fail
                    refine hK.out _ _ ?_ (fun hHeld2 => ?_)
                    · intro _; (try dsimp only)
                      (first | exact hHeld | exact hHeld.trans (hb.mono hHeld.size) | exact hHeld.trans ((below_new _ _).mono hHeld.size) | exact hHeld.drew | exact (hHeld.setCell hge16 _).setCell hge16 _ | exact (hHeld.setCell hge17 _).setCell hge17 _)
                    clear hK K hHeld; have hHeld := hHeld2 (by decide); clear hHeld2
                    try simp only [Act.put, List.setIfInBounds_toArray, List.set_cons_zero, List.set_cons_succ]
                    refine wpAnyS_take (i := 16) (oi := ⟨_, _, _, _, _, _⟩) (v := ?_) rfl (fun _ => trivial) (by kernel_rfl) (by kernel_rfl) (by kernel_rfl) (by kernel_rfl) (fun _ _ _ h => h) (Or.inl ⟨by rfl, ?_⟩) hHeld ?_
                    rotate_left
                    · (intro w hSw; (try dsimp only at hSw); go_simp; try (with_reducible rfl))
                    try simp only [Act.put, List.setIfInBounds_toArray, List.set_cons_zero, List.set_cons_succ]
                    refine wpAnyS_take (i := 17) (oi := ⟨_, _, _, _, _, _⟩) (v := ?_) rfl (fun _ => trivial) (by kernel_rfl) (by kernel_rfl) (by kernel_rfl) (by kernel_rfl) (fun _ _ _ h => h) (Or.inl ⟨by rfl, ?_⟩) hHeld ?_
                    rotate_left
                    · (intro w hSw; (try dsimp only at hSw); go_simp; try (with_reducible rfl))
                    try simp only [Act.put, List.setIfInBounds_toArray, List.set_cons_zero, List.set_cons_succ]
                    refine wpAnyS_take (i := 18) (oi := ⟨_, _, _, _, _, _⟩) (v := ?_) rfl (fun _ => trivial) (by kernel_rfl) (by kernel_rfl) (by kernel_rfl) (by kernel_rfl) (fun _ _ _ h => h) (Or.inl ⟨by rfl, ?_⟩) hHeld ?_
                    rotate_left
                    · (intro w hSw; (try dsimp only at hSw); go_simp; try (with_reducible rfl))
                    try simp only [Act.put, List.setIfInBounds_toArray, List.set_cons_zero, List.set_cons_succ]
                    refine wpAnyS_ready (rs := [19, 20]) (by kernel_rfl) (by simp) ?_
                    refine AllS.cons (o := ⟨_, _, _, _, _, _⟩) rfl (fun _ => trivial) (fun K hK => ?_) ?_
                    ·
                      try (have hne := Nat.ne_of_gt h17b)
                      go_simp
                      first | refine gen_new ?_ | refine gen_newD ?_
                      intro wA h16 g16 hb h16b
                      have hge16 := hHeld.size
                      try (have h17 := h17.below hb)
                      try (have g17 := frz_below g17 h17b hb)
                      try (have h17b := Nat.lt_of_lt_of_le h17b hb.size)
                      refine hK.out _ _ ?_ (fun hHeld2 => ?_)
                      · intro _; (try dsimp only)
                        (first | exact hHeld | exact hHeld.trans (hb.mono hHeld.size) | exact hHeld.trans ((below_new _ _).mono hHeld.size) | exact hHeld.drew | exact (hHeld.setCell hge16 _).setCell hge16 _ | exact (hHeld.setCell hge17 _).setCell hge17 _)
                      clear hK K hHeld; have hHeld := hHeld2 (by decide); clear hHeld2
                      try simp only [Act.put, List.setIfInBounds_toArray, List.set_cons_zero, List.set_cons_succ]
                      refine wpAnyS_ready (rs := [20]) (by kernel_rfl) (by simp) ?_
                      refine AllS.cons (o := ⟨_, _, _, _, _, _⟩) rfl (fun _ => trivial) (fun K hK => ?_) AllS.nil
                      try (have hne := Nat.ne_of_lt h16b)
                      go_simp
                      first | refine gen_new ?_ | refine gen_newD ?_
                      intro wA h17 g17 hb h17b
                      have hge17 := hHeld.size
                      try (have h16 := h16.below hb)
                      try (have g16 := frz_below g16 h16b hb)
                      try (have h16b := Nat.lt_of_lt_of_le h16b hb.size)
                      refine hK.out _ _ ?_ (fun hHeld2 => ?_)
                      · intro _; (try dsimp only)
                        (first | exact hHeld | exact hHeld.trans (hb.mono hHeld.size) | exact hHeld.trans ((below_new _ _).mono hHeld.size) | exact hHeld.drew | exact (hHeld.setCell hge16 _).setCell hge16 _ | exact (hHeld.setCell hge17 _).setCell hge17 _)
                      clear hK K hHeld; have hHeld := hHeld2 (by decide); clear hHeld2
                      try simp only [Act.put, List.setIfInBounds_toArray, List.set_cons_zero, List.set_cons_succ]
                      refine wpAnyS_ready (rs := [21]) (by kernel_rfl) (by simp) ?_
                      refine AllS.cons (o := ⟨_, _, _, _, _, _⟩) rfl (fun _ => trivial) (fun K hK => ?_) AllS.nil
                      have hTB := two_boxes h16 h17 hne (.int .i64 (goF (wkF ⟨s0, s1⟩ ⟨l0, l1⟩ (decide ((cn : Int) ∈ dryL cs fs dry (days * 1440) us i))) ⟨v0, v1⟩).lo) (.int .i64 (goF (wkF ⟨s0, s1⟩ ⟨l0, l1⟩ (decide ((cn : Int) ∈ dryL cs fs dry (days * 1440) us i))) ⟨v0, v1⟩).hi) (.int .i64 (seF (wkF ⟨s0, s1⟩ ⟨l0, l1⟩ (decide ((cn : Int) ∈ dryL cs fs dry (days * 1440) us i))) ⟨v0, v1⟩).lo) (.int .i64 (seF (wkF ⟨s0, s1⟩ ⟨l0, l1⟩ (decide ((cn : Int) ∈ dryL cs fs dry (days * 1440) us i))) ⟨v0, v1⟩).hi)
                      obtain ⟨z0, z1⟩ := h16.c2
                      have y0 := g16 0
                      have y1 := g16 1
                      obtain ⟨x0, x1⟩ := h17.c2
                      have j0 := g17 0
                      have j1 := g17 1
                      go_simp
                      refine hK.out _ _ ?_ (fun hHeld2 => ?_)
                      · intro _; (try dsimp only)
                        (first | exact hHeld | exact hHeld.trans (hb.mono hHeld.size) | exact hHeld.trans ((below_new _ _).mono hHeld.size) | exact hHeld.drew | exact (hHeld.setCell hge16 _).setCell hge16 _ | exact (hHeld.setCell hge17 _).setCell hge17 _)
                      clear hK K hHeld; have hHeld := hHeld2 (by decide); clear hHeld2
                      try simp only [Act.put, List.setIfInBounds_toArray, List.set_cons_zero, List.set_cons_succ]
                      refine wpAnyS_ready (rs := [22]) (by kernel_rfl) (by simp) ?_
                      refine AllS.cons (o := ⟨_, _, _, _, _, _⟩) rfl (fun _ => trivial) (fun K hK => ?_) AllS.nil
                      go_simp
                      refine hK.out _ _ ?_ (fun hHeld2 => ?_)
                      · intro _; (try dsimp only)
                        (first | exact hHeld | exact hHeld.trans (hb.mono hHeld.size) | exact hHeld.trans ((below_new _ _).mono hHeld.size) | exact hHeld.drew | exact (hHeld.setCell hge16 _).setCell hge16 _ | exact (hHeld.setCell hge17 _).setCell hge17 _)
                      clear hK K hHeld; have hHeld := hHeld2 (by decide); clear hHeld2
                      try simp only [Act.put, List.setIfInBounds_toArray, List.set_cons_zero, List.set_cons_succ]
                      refine wpAnyS_done (by kernel_rfl) ?_ _
                      exact ⟨_, _, by first | rfl | trivial, by first | rfl | trivial, by first | rfl | trivial, by first | rfl | trivial, by first | rfl | trivial, by first | rfl | trivial, by first | rfl | trivial, by first | rfl | trivial, by first | rfl | trivial, by first | rfl | trivial, by first | rfl | trivial, by first | rfl | trivial, by first | rfl | trivial, by first | rfl | trivial, hTB.1, hTB.2, hge16, hge17, hHeld⟩
                    refine AllS.cons (o := ⟨_, _, _, _, _, _⟩) rfl (fun _ => trivial) (fun K hK => ?_) AllS.nil
                    try (have hne := Nat.ne_of_lt h16b)
                    go_simp
                    first | refine gen_new ?_ | refine gen_newD ?_
                    intro wA h17 g17 hb h17b
                    have hge17 := hHeld.size
                    try (have h16 := h16.below hb)
                    try (have g16 := frz_below g16 h16b hb)
                    try (have h16b := Nat.lt_of_lt_of_le h16b hb.size)
                    refine hK.out _ _ ?_ (fun hHeld2 => ?_)
                    · intro _; (try dsimp only)
                      (first | exact hHeld | exact hHeld.trans (hb.mono hHeld.size) | exact hHeld.trans ((below_new _ _).mono hHeld.size) | exact hHeld.drew | exact (hHeld.setCell hge16 _).setCell hge16 _ | exact (hHeld.setCell hge17 _).setCell hge17 _)
                    clear hK K hHeld; have hHeld := hHeld2 (by decide); clear hHeld2
                    try simp only [Act.put, List.setIfInBounds_toArray, List.set_cons_zero, List.set_cons_succ]
                    refine wpAnyS_ready (rs := [19]) (by kernel_rfl) (by simp) ?_
                    refine AllS.cons (o := ⟨_, _, _, _, _, _⟩) rfl (fun _ => trivial) (fun K hK => ?_) AllS.nil
                    try (have hne := Nat.ne_of_gt h17b)
                    go_simp
                    first | refine gen_new ?_ | refine gen_newD ?_
                    intro wA h16 g16 hb h16b
                    have hge16 := hHeld.size
                    try (have h17 := h17.below hb)
                    try (have g17 := frz_below g17 h17b hb)
                    try (have h17b := Nat.lt_of_lt_of_le h17b hb.size)
                    refine hK.out _ _ ?_ (fun hHeld2 => ?_)
                    · intro _; (try dsimp only)
                      (first | exact hHeld | exact hHeld.trans (hb.mono hHeld.size) | exact hHeld.trans ((below_new _ _).mono hHeld.size) | exact hHeld.drew | exact (hHeld.setCell hge16 _).setCell hge16 _ | exact (hHeld.setCell hge17 _).setCell hge17 _)
                    clear hK K hHeld; have hHeld := hHeld2 (by decide); clear hHeld2
                    try simp only [Act.put, List.setIfInBounds_toArray, List.set_cons_zero, List.set_cons_succ]
                    refine wpAnyS_ready (rs := [21]) (by kernel_rfl) (by simp) ?_
                    refine AllS.cons (o := ⟨_, _, _, _, _, _⟩) rfl (fun _ => trivial) (fun K hK => ?_) AllS.nil
                    have hTB := two_boxes h16 h17 hne (.int .i64 (goF (wkF ⟨s0, s1⟩ ⟨l0, l1⟩ (decide ((cn : Int) ∈ dryL cs fs dry (days * 1440) us i))) ⟨v0, v1⟩).lo) (.int .i64 (goF (wkF ⟨s0, s1⟩ ⟨l0, l1⟩ (decide ((cn : Int) ∈ dryL cs fs dry (days * 1440) us i))) ⟨v0, v1⟩).hi) (.int .i64 (seF (wkF ⟨s0, s1⟩ ⟨l0, l1⟩ (decide ((cn : Int) ∈ dryL cs fs dry (days * 1440) us i))) ⟨v0, v1⟩).lo) (.int .i64 (seF (wkF ⟨s0, s1⟩ ⟨l0, l1⟩ (decide ((cn : Int) ∈ dryL cs fs dry (days * 1440) us i))) ⟨v0, v1⟩).hi)
                    obtain ⟨z0, z1⟩ := h16.c2
                    have y0 := g16 0
                    have y1 := g16 1
                    obtain ⟨x0, x1⟩ := h17.c2
                    have j0 := g17 0
                    have j1 := g17 1
                    go_simp
                    refine hK.out _ _ ?_ (fun hHeld2 => ?_)
                    · intro _; (try dsimp only)
                      (first | exact hHeld | exact hHeld.trans (hb.mono hHeld.size) | exact hHeld.trans ((below_new _ _).mono hHeld.size) | exact hHeld.drew | exact (hHeld.setCell hge16 _).setCell hge16 _ | exact (hHeld.setCell hge17 _).setCell hge17 _)
                    clear hK K hHeld; have hHeld := hHeld2 (by decide); clear hHeld2
                    try simp only [Act.put, List.setIfInBounds_toArray, List.set_cons_zero, List.set_cons_succ]
                    refine wpAnyS_ready (rs := [22]) (by kernel_rfl) (by simp) ?_
                    refine AllS.cons (o := ⟨_, _, _, _, _, _⟩) rfl (fun _ => trivial) (fun K hK => ?_) AllS.nil
                    go_simp
                    refine hK.out _ _ ?_ (fun hHeld2 => ?_)
                    · intro _; (try dsimp only)
                      (first | exact hHeld | exact hHeld.trans (hb.mono hHeld.size) | exact hHeld.trans ((below_new _ _).mono hHeld.size) | exact hHeld.drew | exact (hHeld.setCell hge16 _).setCell hge16 _ | exact (hHeld.setCell hge17 _).setCell hge17 _)
                    clear hK K hHeld; have hHeld := hHeld2 (by decide); clear hHeld2
                    try simp only [Act.put, List.setIfInBounds_toArray, List.set_cons_zero, List.set_cons_succ]
                    refine wpAnyS_done (by kernel_rfl) ?_ _
                    exact ⟨_, _, by first | rfl | trivial, by first | rfl | trivial, by first | rfl | trivial, by first | rfl | trivial, by first | rfl | trivial, by first | rfl | trivial, by first | rfl | trivial, by first | rfl | trivial, by first | rfl | trivial, by first | rfl | trivial, by first | rfl | trivial, by first | rfl | trivial, by first | rfl | trivial, by first | rfl | trivial, hTB.1, hTB.2, hge16, hge17, hHeld⟩
                  refine AllS.cons (o := ⟨_, _, _, _, _, _⟩) rfl (fun _ => trivial) (fun K hK => ?_) ?_
                  ·
                    try (have hne := Nat.ne_of_gt h17b)
                    go_simp
                    first | refine gen_new ?_ | refine gen_newD ?_
                    intro wA h16 g16 hb h16b
                    have hge16 := hHeld.size
                    try (have h17 := h17.below hb)
                    try (have g17 := frz_below g17 h17b hb)
                    try (have h17b := Nat.lt_of_lt_of_le h17b hb.size)
                    refine hK.out _ _ ?_ (fun hHeld2 => ?_)
                    · intro _; (try dsimp only)
                      (first | exact hHeld | exact hHeld.trans (hb.mono hHeld.size) | exact hHeld.trans ((below_new _ _).mono hHeld.size) | exact hHeld.drew | exact (hHeld.setCell hge16 _).setCell hge16 _ | exact (hHeld.setCell hge17 _).setCell hge17 _)
                    clear hK K hHeld; have hHeld := hHeld2 (by decide); clear hHeld2
                    try simp only [Act.put, List.setIfInBounds_toArray, List.set_cons_zero, List.set_cons_succ]
                    refine wpAnyS_ready (rs := [15, 20]) (by kernel_rfl) (by simp) ?_
                    refine AllS.cons (o := ⟨_, _, _, _, _, _⟩) rfl (fun _ => trivial) (fun K hK => ?_) ?_
                    ·
                      go_simp
                      refine wcall ((rThrough_any cf0 s0 s1 l0 l1 v0 v1 _ _ ⟨B0, B1, B2⟩ ⟨B3, B4, B5⟩ HVa.out).mono ?_)
                      rintro e w' ⟨rfl, hb⟩
                      try (have h16 := h16.below hb)
                      try (have g16 := frz_below g16 h16b hb)
                      try (have h16b := Nat.lt_of_lt_of_le h16b hb.size)
                      try (have h17 := h17.below hb)
                      try (have g17 := frz_below g17 h17b hb)
                      try (have h17b := Nat.lt_of_lt_of_le h17b hb.size)
                      gi_wp2_with fail
                      refine hK.out _ _ ?_ (fun hHeld2 => ?_)
                      · intro _; (try dsimp only)
                        (first | exact hHeld | exact hHeld.trans (hb.mono hHeld.size) | exact hHeld.trans ((below_new _ _).mono hHeld.size) | exact hHeld.drew | exact (hHeld.setCell hge16 _).setCell hge16 _ | exact (hHeld.setCell hge17 _).setCell hge17 _)
                      clear hK K hHeld; have hHeld := hHeld2 (by decide); clear hHeld2
                      try simp only [Act.put, List.setIfInBounds_toArray, List.set_cons_zero, List.set_cons_succ]
                      refine wpAnyS_take (i := 16) (oi := ⟨_, _, _, _, _, _⟩) (v := ?_) rfl (fun _ => trivial) (by kernel_rfl) (by kernel_rfl) (by kernel_rfl) (by kernel_rfl) (fun _ _ _ h => h) (Or.inl ⟨by rfl, ?_⟩) hHeld ?_
                      rotate_left
                      · (intro w hSw; (try dsimp only at hSw); go_simp; try (with_reducible rfl))
                      try simp only [Act.put, List.setIfInBounds_toArray, List.set_cons_zero, List.set_cons_succ]
                      refine wpAnyS_take (i := 17) (oi := ⟨_, _, _, _, _, _⟩) (v := ?_) rfl (fun _ => trivial) (by kernel_rfl) (by kernel_rfl) (by kernel_rfl) (by kernel_rfl) (fun _ _ _ h => h) (Or.inl ⟨by rfl, ?_⟩) hHeld ?_
                      rotate_left
                      · (intro w hSw; (try dsimp only at hSw); go_simp; try (with_reducible rfl))
                      try simp only [Act.put, List.setIfInBounds_toArray, List.set_cons_zero, List.set_cons_succ]
                      refine wpAnyS_take (i := 18) (oi := ⟨_, _, _, _, _, _⟩) (v := ?_) rfl (fun _ => trivial) (by kernel_rfl) (by kernel_rfl) (by kernel_rfl) (by kernel_rfl) (fun _ _ _ h => h) (Or.inl ⟨by rfl, ?_⟩) hHeld ?_
                      rotate_left
                      · (intro w hSw; (try dsimp only at hSw); go_simp; try (with_reducible rfl))
                      try simp only [Act.put, List.setIfInBounds_toArray, List.set_cons_zero, List.set_cons_succ]
                      refine wpAnyS_ready (rs := [20]) (by kernel_rfl) (by simp) ?_
                      refine AllS.cons (o := ⟨_, _, _, _, _, _⟩) rfl (fun _ => trivial) (fun K hK => ?_) AllS.nil
                      try (have hne := Nat.ne_of_lt h16b)
                      go_simp
                      first | refine gen_new ?_ | refine gen_newD ?_
                      intro wA h17 g17 hb h17b
                      have hge17 := hHeld.size
                      try (have h16 := h16.below hb)
                      try (have g16 := frz_below g16 h16b hb)
                      try (have h16b := Nat.lt_of_lt_of_le h16b hb.size)
                      refine hK.out _ _ ?_ (fun hHeld2 => ?_)
                      · intro _; (try dsimp only)
                        (first | exact hHeld | exact hHeld.trans (hb.mono hHeld.size) | exact hHeld.trans ((below_new _ _).mono hHeld.size) | exact hHeld.drew | exact (hHeld.setCell hge16 _).setCell hge16 _ | exact (hHeld.setCell hge17 _).setCell hge17 _)
                      clear hK K hHeld; have hHeld := hHeld2 (by decide); clear hHeld2
                      try simp only [Act.put, List.setIfInBounds_toArray, List.set_cons_zero, List.set_cons_succ]
                      refine wpAnyS_ready (rs := [21]) (by kernel_rfl) (by simp) ?_
                      refine AllS.cons (o := ⟨_, _, _, _, _, _⟩) rfl (fun _ => trivial) (fun K hK => ?_) AllS.nil
                      have hTB := two_boxes h16 h17 hne (.int .i64 (goF (wkF ⟨s0, s1⟩ ⟨l0, l1⟩ (decide ((cn : Int) ∈ dryL cs fs dry (days * 1440) us i))) ⟨v0, v1⟩).lo) (.int .i64 (goF (wkF ⟨s0, s1⟩ ⟨l0, l1⟩ (decide ((cn : Int) ∈ dryL cs fs dry (days * 1440) us i))) ⟨v0, v1⟩).hi) (.int .i64 (seF (wkF ⟨s0, s1⟩ ⟨l0, l1⟩ (decide ((cn : Int) ∈ dryL cs fs dry (days * 1440) us i))) ⟨v0, v1⟩).lo) (.int .i64 (seF (wkF ⟨s0, s1⟩ ⟨l0, l1⟩ (decide ((cn : Int) ∈ dryL cs fs dry (days * 1440) us i))) ⟨v0, v1⟩).hi)
                      obtain ⟨z0, z1⟩ := h16.c2
                      have y0 := g16 0
                      have y1 := g16 1
                      obtain ⟨x0, x1⟩ := h17.c2
                      have j0 := g17 0
                      have j1 := g17 1
                      go_simp
                      refine hK.out _ _ ?_ (fun hHeld2 => ?_)
                      · intro _; (try dsimp only)
                        (first | exact hHeld | exact hHeld.trans (hb.mono hHeld.size) | exact hHeld.trans ((below_new _ _).mono hHeld.size) | exact hHeld.drew | exact (hHeld.setCell hge16 _).setCell hge16 _ | exact (hHeld.setCell hge17 _).setCell hge17 _)
                      clear hK K hHeld; have hHeld := hHeld2 (by decide); clear hHeld2
                      try simp only [Act.put, List.setIfInBounds_toArray, List.set_cons_zero, List.set_cons_succ]
                      refine wpAnyS_ready (rs := [22]) (by kernel_rfl) (by simp) ?_
                      refine AllS.cons (o := ⟨_, _, _, _, _, _⟩) rfl (fun _ => trivial) (fun K hK => ?_) AllS.nil
                      go_simp
                      refine hK.out _ _ ?_ (fun hHeld2 => ?_)
                      · intro _; (try dsimp only)
                        (first | exact hHeld | exact hHeld.trans (hb.mono hHeld.size) | exact hHeld.trans ((below_new _ _).mono hHeld.size) | exact hHeld.drew | exact (hHeld.setCell hge16 _).setCell hge16 _ | exact (hHeld.setCell hge17 _).setCell hge17 _)
                      clear hK K hHeld; have hHeld := hHeld2 (by decide); clear hHeld2
                      try simp only [Act.put, List.setIfInBounds_toArray, List.set_cons_zero, List.set_cons_succ]
                      refine wpAnyS_done (by kernel_rfl) ?_ _
                      exact ⟨_, _, by first | rfl | trivial, by first | rfl | trivial, by first | rfl | trivial, by first | rfl | trivial, by first | rfl | trivial, by first | rfl | trivial, by first | rfl | trivial, by first | rfl | trivial, by first | rfl | trivial, by first | rfl | trivial, by first | rfl | trivial, by first | rfl | trivial, by first | rfl | trivial, by first | rfl | trivial, hTB.1, hTB.2, hge16, hge17, hHeld⟩
                    refine AllS.cons (o := ⟨_, _, _, _, _, _⟩) rfl (fun _ => trivial) (fun K hK => ?_) AllS.nil
                    try (have hne := Nat.ne_of_lt h16b)
                    go_simp
                    first | refine gen_new ?_ | refine gen_newD ?_
                    intro wA h17 g17 hb h17b
                    have hge17 := hHeld.size
                    try (have h16 := h16.below hb)
                    try (have g16 := frz_below g16 h16b hb)
                    try (have h16b := Nat.lt_of_lt_of_le h16b hb.size)
                    refine hK.out _ _ ?_ (fun hHeld2 => ?_)
                    · intro _; (try dsimp only)
                      (first | exact hHeld | exact hHeld.trans (hb.mono hHeld.size) | exact hHeld.trans ((below_new _ _).mono hHeld.size) | exact hHeld.drew | exact (hHeld.setCell hge16 _).setCell hge16 _ | exact (hHeld.setCell hge17 _).setCell hge17 _)
                    clear hK K hHeld; have hHeld := hHeld2 (by decide); clear hHeld2
                    try simp only [Act.put, List.setIfInBounds_toArray, List.set_cons_zero, List.set_cons_succ]
                    refine wpAnyS_ready (rs := [15]) (by kernel_rfl) (by simp) ?_
                    refine AllS.cons (o := ⟨_, _, _, _, _, _⟩) rfl (fun _ => trivial) (fun K hK => ?_) AllS.nil
                    go_simp
                    refine wcall ((rThrough_any cf0 s0 s1 l0 l1 v0 v1 _ _ ⟨B0, B1, B2⟩ ⟨B3, B4, B5⟩ HVa.out).mono ?_)
                    rintro e w' ⟨rfl, hb⟩
                    try (have h16 := h16.below hb)
                    try (have g16 := frz_below g16 h16b hb)
                    try (have h16b := Nat.lt_of_lt_of_le h16b hb.size)
                    try (have h17 := h17.below hb)
                    try (have g17 := frz_below g17 h17b hb)
                    try (have h17b := Nat.lt_of_lt_of_le h17b hb.size)
                    gi_wp2_with fail
                    refine hK.out _ _ ?_ (fun hHeld2 => ?_)
                    · intro _; (try dsimp only)
                      (first | exact hHeld | exact hHeld.trans (hb.mono hHeld.size) | exact hHeld.trans ((below_new _ _).mono hHeld.size) | exact hHeld.drew | exact (hHeld.setCell hge16 _).setCell hge16 _ | exact (hHeld.setCell hge17 _).setCell hge17 _)
                    clear hK K hHeld; have hHeld := hHeld2 (by decide); clear hHeld2
                    try simp only [Act.put, List.setIfInBounds_toArray, List.set_cons_zero, List.set_cons_succ]
                    refine wpAnyS_take (i := 16) (oi := ⟨_, _, _, _, _, _⟩) (v := ?_) rfl (fun _ => trivial) (by kernel_rfl) (by kernel_rfl) (by kernel_rfl) (by kernel_rfl) (fun _ _ _ h => h) (Or.inl ⟨by rfl, ?_⟩) hHeld ?_
                    rotate_left
                    · (intro w hSw; (try dsimp only at hSw); go_simp; try (with_reducible rfl))
                    try simp only [Act.put, List.setIfInBounds_toArray, List.set_cons_zero, List.set_cons_succ]
                    refine wpAnyS_take (i := 17) (oi := ⟨_, _, _, _, _, _⟩) (v := ?_) rfl (fun _ => trivial) (by kernel_rfl) (by kernel_rfl) (by kernel_rfl) (by kernel_rfl) (fun _ _ _ h => h) (Or.inl ⟨by rfl, ?_⟩) hHeld ?_
                    rotate_left
                    · (intro w hSw; (try dsimp only at hSw); go_simp; try (with_reducible rfl))
                    try simp only [Act.put, List.setIfInBounds_toArray, List.set_cons_zero, List.set_cons_succ]
                    refine wpAnyS_take (i := 18) (oi := ⟨_, _, _, _, _, _⟩) (v := ?_) rfl (fun _ => trivial) (by kernel_rfl) (by kernel_rfl) (by kernel_rfl) (by kernel_rfl) (fun _ _ _ h => h) (Or.inl ⟨by rfl, ?_⟩) hHeld ?_
                    rotate_left
                    · (intro w hSw; (try dsimp only at hSw); go_simp; try (with_reducible rfl))
                    try simp only [Act.put, List.setIfInBounds_toArray, List.set_cons_zero, List.set_cons_succ]
                    refine wpAnyS_ready (rs := [21]) (by kernel_rfl) (by simp) ?_
                    refine AllS.cons (o := ⟨_, _, _, _, _, _⟩) rfl (fun _ => trivial) (fun K hK => ?_) AllS.nil
                    have hTB := two_boxes h16 h17 hne (.int .i64 (goF (wkF ⟨s0, s1⟩ ⟨l0, l1⟩ (decide ((cn : Int) ∈ dryL cs fs dry (days * 1440) us i))) ⟨v0, v1⟩).lo) (.int .i64 (goF (wkF ⟨s0, s1⟩ ⟨l0, l1⟩ (decide ((cn : Int) ∈ dryL cs fs dry (days * 1440) us i))) ⟨v0, v1⟩).hi) (.int .i64 (seF (wkF ⟨s0, s1⟩ ⟨l0, l1⟩ (decide ((cn : Int) ∈ dryL cs fs dry (days * 1440) us i))) ⟨v0, v1⟩).lo) (.int .i64 (seF (wkF ⟨s0, s1⟩ ⟨l0, l1⟩ (decide ((cn : Int) ∈ dryL cs fs dry (days * 1440) us i))) ⟨v0, v1⟩).hi)
                    obtain ⟨z0, z1⟩ := h16.c2
                    have y0 := g16 0
                    have y1 := g16 1
                    obtain ⟨x0, x1⟩ := h17.c2
                    have j0 := g17 0
                    have j1 := g17 1
                    go_simp
                    refine hK.out _ _ ?_ (fun hHeld2 => ?_)
                    · intro _; (try dsimp only)
                      (first | exact hHeld | exact hHeld.trans (hb.mono hHeld.size) | exact hHeld.trans ((below_new _ _).mono hHeld.size) | exact hHeld.drew | exact (hHeld.setCell hge16 _).setCell hge16 _ | exact (hHeld.setCell hge17 _).setCell hge17 _)
                    clear hK K hHeld; have hHeld := hHeld2 (by decide); clear hHeld2
                    try simp only [Act.put, List.setIfInBounds_toArray, List.set_cons_zero, List.set_cons_succ]
                    refine wpAnyS_ready (rs := [22]) (by kernel_rfl) (by simp) ?_
                    refine AllS.cons (o := ⟨_, _, _, _, _, _⟩) rfl (fun _ => trivial) (fun K hK => ?_) AllS.nil
                    go_simp
                    refine hK.out _ _ ?_ (fun hHeld2 => ?_)
                    · intro _; (try dsimp only)
                      (first | exact hHeld | exact hHeld.trans (hb.mono hHeld.size) | exact hHeld.trans ((below_new _ _).mono hHeld.size) | exact hHeld.drew | exact (hHeld.setCell hge16 _).setCell hge16 _ | exact (hHeld.setCell hge17 _).setCell hge17 _)
                    clear hK K hHeld; have hHeld := hHeld2 (by decide); clear hHeld2
                    try simp only [Act.put, List.setIfInBounds_toArray, List.set_cons_zero, List.set_cons_succ]
                    refine wpAnyS_done (by kernel_rfl) ?_ _
                    exact ⟨_, _, by first | rfl | trivial, by first | rfl | trivial, by first | rfl | trivial, by first | rfl | trivial, by first | rfl | trivial, by first | rfl | trivial, by first | rfl | trivial, by first | rfl | trivial, by first | rfl | trivial, by first | rfl | trivial, by first | rfl | trivial, by first | rfl | trivial, by first | rfl | trivial, by first | rfl | trivial, hTB.1, hTB.2, hge16, hge17, hHeld⟩
                  refine AllS.cons (o := ⟨_, _, _, _, _, _⟩) rfl (fun _ => trivial) (fun K hK => ?_) AllS.nil
                  try (have hne := Nat.ne_of_lt h16b)
                  go_simp
                  first | refine gen_new ?_ | refine gen_newD ?_
                  intro wA h17 g17 hb h17b
                  have hge17 := hHeld.size
                  try (have h16 := h16.below hb)
                  try (have g16 := frz_below g16 h16b hb)
                  try (have h16b := Nat.lt_of_lt_of_le h16b hb.size)
                  refine hK.out _ _ ?_ (fun hHeld2 => ?_)
                  · intro _; (try dsimp only)
                    (first | exact hHeld | exact hHeld.trans (hb.mono hHeld.size) | exact hHeld.trans ((below_new _ _).mono hHeld.size) | exact hHeld.drew | exact (hHeld.setCell hge16 _).setCell hge16 _ | exact (hHeld.setCell hge17 _).setCell hge17 _)
                  clear hK K hHeld; have hHeld := hHeld2 (by decide); clear hHeld2
                  try simp only [Act.put, List.setIfInBounds_toArray, List.set_cons_zero, List.set_cons_succ]
                  refine wpAnyS_ready (rs := [15, 19]) (by kernel_rfl) (by simp) ?_
                  refine AllS.cons (o := ⟨_, _, _, _, _, _⟩) rfl (fun _ => trivial) (fun K hK => ?_) ?_
                  ·
                    go_simp
                    refine wcall ((rThrough_any cf0 s0 s1 l0 l1 v0 v1 _ _ ⟨B0, B1, B2⟩ ⟨B3, B4, B5⟩ HVa.out).mono ?_)
                    rintro e w' ⟨rfl, hb⟩
                    try (have h16 := h16.below hb)
                    try (have g16 := frz_below g16 h16b hb)
                    try (have h16b := Nat.lt_of_lt_of_le h16b hb.size)
                    try (have h17 := h17.below hb)
                    try (have g17 := frz_below g17 h17b hb)
                    try (have h17b := Nat.lt_of_lt_of_le h17b hb.size)
                    gi_wp2_with fail
                    refine hK.out _ _ ?_ (fun hHeld2 => ?_)
                    · intro _; (try dsimp only)
                      (first | exact hHeld | exact hHeld.trans (hb.mono hHeld.size) | exact hHeld.trans ((below_new _ _).mono hHeld.size) | exact hHeld.drew | exact (hHeld.setCell hge16 _).setCell hge16 _ | exact (hHeld.setCell hge17 _).setCell hge17 _)
                    clear hK K hHeld; have hHeld := hHeld2 (by decide); clear hHeld2
                    try simp only [Act.put, List.setIfInBounds_toArray, List.set_cons_zero, List.set_cons_succ]
                    refine wpAnyS_take (i := 16) (oi := ⟨_, _, _, _, _, _⟩) (v := ?_) rfl (fun _ => trivial) (by kernel_rfl) (by kernel_rfl) (by kernel_rfl) (by kernel_rfl) (fun _ _ _ h => h) (Or.inl ⟨by rfl, ?_⟩) hHeld ?_
                    rotate_left
                    · (intro w hSw; (try dsimp only at hSw); go_simp; try (with_reducible rfl))
                    try simp only [Act.put, List.setIfInBounds_toArray, List.set_cons_zero, List.set_cons_succ]
                    refine wpAnyS_take (i := 17) (oi := ⟨_, _, _, _, _, _⟩) (v := ?_) rfl (fun _ => trivial) (by kernel_rfl) (by kernel_rfl) (by kernel_rfl) (by kernel_rfl) (fun _ _ _ h => h) (Or.inl ⟨by rfl, ?_⟩) hHeld ?_
                    rotate_left
                    · (intro w hSw; (try dsimp only at hSw); go_simp; try (with_reducible rfl))
                    try simp only [Act.put, List.setIfInBounds_toArray, List.set_cons_zero, List.set_cons_succ]
                    refine wpAnyS_take (i := 18) (oi := ⟨_, _, _, _, _, _⟩) (v := ?_) rfl (fun _ => trivial) (by kernel_rfl) (by kernel_rfl) (by kernel_rfl) (by kernel_rfl) (fun _ _ _ h => h) (Or.inl ⟨by rfl, ?_⟩) hHeld ?_
                    rotate_left
                    · (intro w hSw; (try dsimp only at hSw); go_simp; try (with_reducible rfl))
                    try simp only [Act.put, List.setIfInBounds_toArray, List.set_cons_zero, List.set_cons_succ]
                    refine wpAnyS_ready (rs := [19]) (by kernel_rfl) (by simp) ?_
                    refine AllS.cons (o := ⟨_, _, _, _, _, _⟩) rfl (fun _ => trivial) (fun K hK => ?_) AllS.nil
                    try (have hne := Nat.ne_of_gt h17b)
                    go_simp
                    first | refine gen_new ?_ | refine gen_newD ?_
                    intro wA h16 g16 hb h16b
                    have hge16 := hHeld.size
                    try (have h17 := h17.below hb)
                    try (have g17 := frz_below g17 h17b hb)
                    try (have h17b := Nat.lt_of_lt_of_le h17b hb.size)
                    refine hK.out _ _ ?_ (fun hHeld2 => ?_)
                    · intro _; (try dsimp only)
                      (first | exact hHeld | exact hHeld.trans (hb.mono hHeld.size) | exact hHeld.trans ((below_new _ _).mono hHeld.size) | exact hHeld.drew | exact (hHeld.setCell hge16 _).setCell hge16 _ | exact (hHeld.setCell hge17 _).setCell hge17 _)
                    clear hK K hHeld; have hHeld := hHeld2 (by decide); clear hHeld2
                    try simp only [Act.put, List.setIfInBounds_toArray, List.set_cons_zero, List.set_cons_succ]
                    refine wpAnyS_ready (rs := [21]) (by kernel_rfl) (by simp) ?_
                    refine AllS.cons (o := ⟨_, _, _, _, _, _⟩) rfl (fun _ => trivial) (fun K hK => ?_) AllS.nil
                    have hTB := two_boxes h16 h17 hne (.int .i64 (goF (wkF ⟨s0, s1⟩ ⟨l0, l1⟩ (decide ((cn : Int) ∈ dryL cs fs dry (days * 1440) us i))) ⟨v0, v1⟩).lo) (.int .i64 (goF (wkF ⟨s0, s1⟩ ⟨l0, l1⟩ (decide ((cn : Int) ∈ dryL cs fs dry (days * 1440) us i))) ⟨v0, v1⟩).hi) (.int .i64 (seF (wkF ⟨s0, s1⟩ ⟨l0, l1⟩ (decide ((cn : Int) ∈ dryL cs fs dry (days * 1440) us i))) ⟨v0, v1⟩).lo) (.int .i64 (seF (wkF ⟨s0, s1⟩ ⟨l0, l1⟩ (decide ((cn : Int) ∈ dryL cs fs dry (days * 1440) us i))) ⟨v0, v1⟩).hi)
                    obtain ⟨z0, z1⟩ := h16.c2
                    have y0 := g16 0
                    have y1 := g16 1
                    obtain ⟨x0, x1⟩ := h17.c2
                    have j0 := g17 0
                    have j1 := g17 1
                    go_simp
                    refine hK.out _ _ ?_ (fun hHeld2 => ?_)
                    · intro _; (try dsimp only)
                      (first | exact hHeld | exact hHeld.trans (hb.mono hHeld.size) | exact hHeld.trans ((below_new _ _).mono hHeld.size) | exact hHeld.drew | exact (hHeld.setCell hge16 _).setCell hge16 _ | exact (hHeld.setCell hge17 _).setCell hge17 _)
                    clear hK K hHeld; have hHeld := hHeld2 (by decide); clear hHeld2
                    try simp only [Act.put, List.setIfInBounds_toArray, List.set_cons_zero, List.set_cons_succ]
                    refine wpAnyS_ready (rs := [22]) (by kernel_rfl) (by simp) ?_
                    refine AllS.cons (o := ⟨_, _, _, _, _, _⟩) rfl (fun _ => trivial) (fun K hK => ?_) AllS.nil
                    go_simp
                    refine hK.out _ _ ?_ (fun hHeld2 => ?_)
                    · intro _; (try dsimp only)
                      (first | exact hHeld | exact hHeld.trans (hb.mono hHeld.size) | exact hHeld.trans ((below_new _ _).mono hHeld.size) | exact hHeld.drew | exact (hHeld.setCell hge16 _).setCell hge16 _ | exact (hHeld.setCell hge17 _).setCell hge17 _)
                    clear hK K hHeld; have hHeld := hHeld2 (by decide); clear hHeld2
                    try simp only [Act.put, List.setIfInBounds_toArray, List.set_cons_zero, List.set_cons_succ]
                    refine wpAnyS_done (by kernel_rfl) ?_ _
                    exact ⟨_, _, by first | rfl | trivial, by first | rfl | trivial, by first | rfl | trivial, by first | rfl | trivial, by first | rfl | trivial, by first | rfl | trivial, by first | rfl | trivial, by first | rfl | trivial, by first | rfl | trivial, by first | rfl | trivial, by first | rfl | trivial, by first | rfl | trivial, by first | rfl | trivial, by first | rfl | trivial, hTB.1, hTB.2, hge16, hge17, hHeld⟩
                  refine AllS.cons (o := ⟨_, _, _, _, _, _⟩) rfl (fun _ => trivial) (fun K hK => ?_) AllS.nil
                  try (have hne := Nat.ne_of_gt h17b)
                  go_simp
                  first | refine gen_new ?_ | refine gen_newD ?_
                  intro wA h16 g16 hb h16b
                  have hge16 := hHeld.size
                  try (have h17 := h17.below hb)
                  try (have g17 := frz_below g17 h17b hb)
                  try (have h17b := Nat.lt_of_lt_of_le h17b hb.size)
                  refine hK.out _ _ ?_ (fun hHeld2 => ?_)
                  · intro _; (try dsimp only)
                    (first | exact hHeld | exact hHeld.trans (hb.mono hHeld.size) | exact hHeld.trans ((below_new _ _).mono hHeld.size) | exact hHeld.drew | exact (hHeld.setCell hge16 _).setCell hge16 _ | exact (hHeld.setCell hge17 _).setCell hge17 _)
                  clear hK K hHeld; have hHeld := hHeld2 (by decide); clear hHeld2
                  try simp only [Act.put, List.setIfInBounds_toArray, List.set_cons_zero, List.set_cons_succ]
                  refine wpAnyS_ready (rs := [15]) (by kernel_rfl) (by simp) ?_
                  refine AllS.cons (o := ⟨_, _, _, _, _, _⟩) rfl (fun _ => trivial) (fun K hK => ?_) AllS.nil
                  go_simp
                  refine wcall ((rThrough_any cf0 s0 s1 l0 l1 v0 v1 _ _ ⟨B0, B1, B2⟩ ⟨B3, B4, B5⟩ HVa.out).mono ?_)
                  rintro e w' ⟨rfl, hb⟩
                  try (have h16 := h16.below hb)
                  try (have g16 := frz_below g16 h16b hb)
                  try (have h16b := Nat.lt_of_lt_of_le h16b hb.size)
                  try (have h17 := h17.below hb)
                  try (have g17 := frz_below g17 h17b hb)
                  try (have h17b := Nat.lt_of_lt_of_le h17b hb.size)
                  gi_wp2_with fail
                  refine hK.out _ _ ?_ (fun hHeld2 => ?_)
                  · intro _; (try dsimp only)
                    (first | exact hHeld | exact hHeld.trans (hb.mono hHeld.size) | exact hHeld.trans ((below_new _ _).mono hHeld.size) | exact hHeld.drew | exact (hHeld.setCell hge16 _).setCell hge16 _ | exact (hHeld.setCell hge17 _).setCell hge17 _)
                  clear hK K hHeld; have hHeld := hHeld2 (by decide); clear hHeld2
                  try simp only [Act.put, List.setIfInBounds_toArray, List.set_cons_zero, List.set_cons_succ]
                  refine wpAnyS_take (i := 16) (oi := ⟨_, _, _, _, _, _⟩) (v := ?_) rfl (fun _ => trivial) (by kernel_rfl) (by kernel_rfl) (by kernel_rfl) (by kernel_rfl) (fun _ _ _ h => h) (Or.inl ⟨by rfl, ?_⟩) hHeld ?_
                  rotate_left
                  · (intro w hSw; (try dsimp only at hSw); go_simp; try (with_reducible rfl))
                  try simp only [Act.put, List.setIfInBounds_toArray, List.set_cons_zero, List.set_cons_succ]
                  refine wpAnyS_take (i := 17) (oi := ⟨_, _, _, _, _, _⟩) (v := ?_) rfl (fun _ => trivial) (by kernel_rfl) (by kernel_rfl) (by kernel_rfl) (by kernel_rfl) (fun _ _ _ h => h) (Or.inl ⟨by rfl, ?_⟩) hHeld ?_
                  rotate_left
                  · (intro w hSw; (try dsimp only at hSw); go_simp; try (with_reducible rfl))
                  try simp only [Act.put, List.setIfInBounds_toArray, List.set_cons_zero, List.set_cons_succ]
                  refine wpAnyS_take (i := 18) (oi := ⟨_, _, _, _, _, _⟩) (v := ?_) rfl (fun _ => trivial) (by kernel_rfl) (by kernel_rfl) (by kernel_rfl) (by kernel_rfl) (fun _ _ _ h => h) (Or.inl ⟨by rfl, ?_⟩) hHeld ?_
                  rotate_left
                  · (intro w hSw; (try dsimp only at hSw); go_simp; try (with_reducible rfl))
                  try simp only [Act.put, List.setIfInBounds_toArray, List.set_cons_zero, List.set_cons_succ]
                  refine wpAnyS_ready (rs := [21]) (by kernel_rfl) (by simp) ?_
                  refine AllS.cons (o := ⟨_, _, _, _, _, _⟩) rfl (fun _ => trivial) (fun K hK => ?_) AllS.nil
                  have hTB := two_boxes h16 h17 hne (.int .i64 (goF (wkF ⟨s0, s1⟩ ⟨l0, l1⟩ (decide ((cn : Int) ∈ dryL cs fs dry (days * 1440) us i))) ⟨v0, v1⟩).lo) (.int .i64 (goF (wkF ⟨s0, s1⟩ ⟨l0, l1⟩ (decide ((cn : Int) ∈ dryL cs fs dry (days * 1440) us i))) ⟨v0, v1⟩).hi) (.int .i64 (seF (wkF ⟨s0, s1⟩ ⟨l0, l1⟩ (decide ((cn : Int) ∈ dryL cs fs dry (days * 1440) us i))) ⟨v0, v1⟩).lo) (.int .i64 (seF (wkF ⟨s0, s1⟩ ⟨l0, l1⟩ (decide ((cn : Int) ∈ dryL cs fs dry (days * 1440) us i))) ⟨v0, v1⟩).hi)
                  obtain ⟨z0, z1⟩ := h16.c2
                  have y0 := g16 0
                  have y1 := g16 1
                  obtain ⟨x0, x1⟩ := h17.c2
                  have j0 := g17 0
                  have j1 := g17 1
                  go_simp
                  refine hK.out _ _ ?_ (fun hHeld2 => ?_)
                  · intro _; (try dsimp only)
                    (first | exact hHeld | exact hHeld.trans (hb.mono hHeld.size) | exact hHeld.trans ((below_new _ _).mono hHeld.size) | exact hHeld.drew | exact (hHeld.setCell hge16 _).setCell hge16 _ | exact (hHeld.setCell hge17 _).setCell hge17 _)
                  clear hK K hHeld; have hHeld := hHeld2 (by decide); clear hHeld2
                  try simp only [Act.put, List.setIfInBounds_toArray, List.set_cons_zero, List.set_cons_succ]
                  refine wpAnyS_ready (rs := [22]) (by kernel_rfl) (by simp) ?_
                  refine AllS.cons (o := ⟨_, _, _, _, _, _⟩) rfl (fun _ => trivial) (fun K hK => ?_) AllS.nil
                  go_simp
                  refine hK.out _ _ ?_ (fun hHeld2 => ?_)
                  · intro _; (try dsimp only)
                    (first | exact hHeld | exact hHeld.trans (hb.mono hHeld.size) | exact hHeld.trans ((below_new _ _).mono hHeld.size) | exact hHeld.drew | exact (hHeld.setCell hge16 _).setCell hge16 _ | exact (hHeld.setCell hge17 _).setCell hge17 _)
                  clear hK K hHeld; have hHeld := hHeld2 (by decide); clear hHeld2
                  try simp only [Act.put, List.setIfInBounds_toArray, List.set_cons_zero, List.set_cons_succ]
                  refine wpAnyS_done (by kernel_rfl) ?_ _
                  exact ⟨_, _, by first | rfl | trivial, by first | rfl | trivial, by first | rfl | trivial, by first | rfl | trivial, by first | rfl | trivial, by first | rfl | trivial, by first | rfl | trivial, by first | rfl | trivial, by first | rfl | trivial, by first | rfl | trivial, by first | rfl | trivial, by first | rfl | trivial, by first | rfl | trivial, by first | rfl | trivial, hTB.1, hTB.2, hge16, hge17, hHeld⟩
                refine AllS.cons (o := ⟨_, _, _, _, _, _⟩) rfl (fun _ => trivial) (fun K hK => ?_) ?_
                ·
                  try (have hne := Nat.ne_of_gt h17b)
                  go_simp
                  first | refine gen_new ?_ | refine gen_newD ?_
                  intro wA h16 g16 hb h16b
                  have hge16 := hHeld.size
                  try (have h17 := h17.below hb)
                  try (have g17 := frz_below g17 h17b hb)
                  try (have h17b := Nat.lt_of_lt_of_le h17b hb.size)
                  refine hK.out _ _ ?_ (fun hHeld2 => ?_)
                  · intro _; (try dsimp only)
                    (first | exact hHeld | exact hHeld.trans (hb.mono hHeld.size) | exact hHeld.trans ((below_new _ _).mono hHeld.size) | exact hHeld.drew | exact (hHeld.setCell hge16 _).setCell hge16 _ | exact (hHeld.setCell hge17 _).setCell hge17 _)
                  clear hK K hHeld; have hHeld := hHeld2 (by decide); clear hHeld2
                  try simp only [Act.put, List.setIfInBounds_toArray, List.set_cons_zero, List.set_cons_succ]
                  refine wpAnyS_ready (rs := [14, 20]) (by kernel_rfl) (by simp) ?_
                  refine AllS.cons (o := ⟨_, _, _, _, _, _⟩) rfl (fun _ => trivial) (fun K hK => ?_) ?_
                  ·
                    go_simp
                    refine wcall ((rHas_any _ _ _ _ (cn : Int) _ ((Hdry.out.below hHeld).more hHeld.size) Hdn.out (by have := Hdn.out; have := Hdl.out; omega)).mono ?_)
                    rintro e w' ⟨rfl, hw⟩
                    have hb := below_of_eq hw
                    clear hw
                    try (have h16 := h16.below hb)
                    try (have g16 := frz_below g16 h16b hb)
                    try (have h16b := Nat.lt_of_lt_of_le h16b hb.size)
                    try (have h17 := h17.below hb)
                    try (have g17 := frz_below g17 h17b hb)
                    try (have h17b := Nat.lt_of_lt_of_le h17b hb.size)
                    gi_wp2_with fail
                    refine hK.out _ _ ?_ (fun hHeld2 => ?_)
                    · intro _; (try dsimp only)
                      (first | exact hHeld | exact hHeld.trans (hb.mono hHeld.size) | exact hHeld.trans ((below_new _ _).mono hHeld.size) | exact hHeld.drew | exact (hHeld.setCell hge16 _).setCell hge16 _ | exact (hHeld.setCell hge17 _).setCell hge17 _)
                    clear hK K hHeld; have hHeld := hHeld2 (by decide); clear hHeld2
                    try simp only [Act.put, List.setIfInBounds_toArray, List.set_cons_zero, List.set_cons_succ]
                    refine wpAnyS_ready (rs := [15, 20]) (by kernel_rfl) (by simp) ?_
                    refine AllS.cons (o := ⟨_, _, _, _, _, _⟩) rfl (fun _ => trivial) (fun K hK => ?_) ?_
                    ·
                      go_simp
                      refine wcall ((rThrough_any cf0 s0 s1 l0 l1 v0 v1 _ _ ⟨B0, B1, B2⟩ ⟨B3, B4, B5⟩ HVa.out).mono ?_)
                      rintro e w' ⟨rfl, hb⟩
                      try (have h16 := h16.below hb)
                      try (have g16 := frz_below g16 h16b hb)
                      try (have h16b := Nat.lt_of_lt_of_le h16b hb.size)
                      try (have h17 := h17.below hb)
                      try (have g17 := frz_below g17 h17b hb)
                      try (have h17b := Nat.lt_of_lt_of_le h17b hb.size)
                      gi_wp2_with fail
                      refine hK.out _ _ ?_ (fun hHeld2 => ?_)
                      · intro _; (try dsimp only)
                        (first | exact hHeld | exact hHeld.trans (hb.mono hHeld.size) | exact hHeld.trans ((below_new _ _).mono hHeld.size) | exact hHeld.drew | exact (hHeld.setCell hge16 _).setCell hge16 _ | exact (hHeld.setCell hge17 _).setCell hge17 _)
                      clear hK K hHeld; have hHeld := hHeld2 (by decide); clear hHeld2
                      try simp only [Act.put, List.setIfInBounds_toArray, List.set_cons_zero, List.set_cons_succ]
                      refine wpAnyS_take (i := 16) (oi := ⟨_, _, _, _, _, _⟩) (v := ?_) rfl (fun _ => trivial) (by kernel_rfl) (by kernel_rfl) (by kernel_rfl) (by kernel_rfl) (fun _ _ _ h => h) (Or.inl ⟨by rfl, ?_⟩) hHeld ?_
                      rotate_left
                      · (intro w hSw; (try dsimp only at hSw); go_simp; try (with_reducible rfl))
                      try simp only [Act.put, List.setIfInBounds_toArray, List.set_cons_zero, List.set_cons_succ]
                      refine wpAnyS_take (i := 17) (oi := ⟨_, _, _, _, _, _⟩) (v := ?_) rfl (fun _ => trivial) (by kernel_rfl) (by kernel_rfl) (by kernel_rfl) (by kernel_rfl) (fun _ _ _ h => h) (Or.inl ⟨by rfl, ?_⟩) hHeld ?_
                      rotate_left
                      · (intro w hSw; (try dsimp only at hSw); go_simp; try (with_reducible rfl))
                      try simp only [Act.put, List.setIfInBounds_toArray, List.set_cons_zero, List.set_cons_succ]
                      refine wpAnyS_take (i := 18) (oi := ⟨_, _, _, _, _, _⟩) (v := ?_) rfl (fun _ => trivial) (by kernel_rfl) (by kernel_rfl) (by kernel_rfl) (by kernel_rfl) (fun _ _ _ h => h) (Or.inl ⟨by rfl, ?_⟩) hHeld ?_
                      rotate_left
                      · (intro w hSw; (try dsimp only at hSw); go_simp; try (with_reducible rfl))
                      try simp only [Act.put, List.setIfInBounds_toArray, List.set_cons_zero, List.set_cons_succ]
                      refine wpAnyS_ready (rs := [20]) (by kernel_rfl) (by simp) ?_
                      refine AllS.cons (o := ⟨_, _, _, _, _, _⟩) rfl (fun _ => trivial) (fun K hK => ?_) AllS.nil
                      try (have hne := Nat.ne_of_lt h16b)
                      go_simp
                      first | refine gen_new ?_ | refine gen_newD ?_
                      intro wA h17 g17 hb h17b
                      have hge17 := hHeld.size
                      try (have h16 := h16.below hb)
                      try (have g16 := frz_below g16 h16b hb)
                      try (have h16b := Nat.lt_of_lt_of_le h16b hb.size)
                      refine hK.out _ _ ?_ (fun hHeld2 => ?_)
                      · intro _; (try dsimp only)
                        (first | exact hHeld | exact hHeld.trans (hb.mono hHeld.size) | exact hHeld.trans ((below_new _ _).mono hHeld.size) | exact hHeld.drew | exact (hHeld.setCell hge16 _).setCell hge16 _ | exact (hHeld.setCell hge17 _).setCell hge17 _)
                      clear hK K hHeld; have hHeld := hHeld2 (by decide); clear hHeld2
                      try simp only [Act.put, List.setIfInBounds_toArray, List.set_cons_zero, List.set_cons_succ]
                      refine wpAnyS_ready (rs := [21]) (by kernel_rfl) (by simp) ?_
                      refine AllS.cons (o := ⟨_, _, _, _, _, _⟩) rfl (fun _ => trivial) (fun K hK => ?_) AllS.nil
                      have hTB := two_boxes h16 h17 hne (.int .i64 (goF (wkF ⟨s0, s1⟩ ⟨l0, l1⟩ (decide ((cn : Int) ∈ dryL cs fs dry (days * 1440) us i))) ⟨v0, v1⟩).lo) (.int .i64 (goF (wkF ⟨s0, s1⟩ ⟨l0, l1⟩ (decide ((cn : Int) ∈ dryL cs fs dry (days * 1440) us i))) ⟨v0, v1⟩).hi) (.int .i64 (seF (wkF ⟨s0, s1⟩ ⟨l0, l1⟩ (decide ((cn : Int) ∈ dryL cs fs dry (days * 1440) us i))) ⟨v0, v1⟩).lo) (.int .i64 (seF (wkF ⟨s0, s1⟩ ⟨l0, l1⟩ (decide ((cn : Int) ∈ dryL cs fs dry (days * 1440) us i))) ⟨v0, v1⟩).hi)
                      obtain ⟨z0, z1⟩ := h16.c2
                      have y0 := g16 0
                      have y1 := g16 1
                      obtain ⟨x0, x1⟩ := h17.c2
                      have j0 := g17 0
                      have j1 := g17 1
                      go_simp
                      refine hK.out _ _ ?_ (fun hHeld2 => ?_)
                      · intro _; (try dsimp only)
                        (first | exact hHeld | exact hHeld.trans (hb.mono hHeld.size) | exact hHeld.trans ((below_new _ _).mono hHeld.size) | exact hHeld.drew | exact (hHeld.setCell hge16 _).setCell hge16 _ | exact (hHeld.setCell hge17 _).setCell hge17 _)
                      clear hK K hHeld; have hHeld := hHeld2 (by decide); clear hHeld2
                      try simp only [Act.put, List.setIfInBounds_toArray, List.set_cons_zero, List.set_cons_succ]
                      refine wpAnyS_ready (rs := [22]) (by kernel_rfl) (by simp) ?_
                      refine AllS.cons (o := ⟨_, _, _, _, _, _⟩) rfl (fun _ => trivial) (fun K hK => ?_) AllS.nil
                      go_simp
                      refine hK.out _ _ ?_ (fun hHeld2 => ?_)
                      · intro _; (try dsimp only)
                        (first | exact hHeld | exact hHeld.trans (hb.mono hHeld.size) | exact hHeld.trans ((below_new _ _).mono hHeld.size) | exact hHeld.drew | exact (hHeld.setCell hge16 _).setCell hge16 _ | exact (hHeld.setCell hge17 _).setCell hge17 _)
                      clear hK K hHeld; have hHeld := hHeld2 (by decide); clear hHeld2
                      try simp only [Act.put, List.setIfInBounds_toArray, List.set_cons_zero, List.set_cons_succ]
                      refine wpAnyS_done (by kernel_rfl) ?_ _
                      exact ⟨_, _, by first | rfl | trivial, by first | rfl | trivial, by first | rfl | trivial, by first | rfl | trivial, by first | rfl | trivial, by first | rfl | trivial, by first | rfl | trivial, by first | rfl | trivial, by first | rfl | trivial, by first | rfl | trivial, by first | rfl | trivial, by first | rfl | trivial, by first | rfl | trivial, by first | rfl | trivial, hTB.1, hTB.2, hge16, hge17, hHeld⟩
                    refine AllS.cons (o := ⟨_, _, _, _, _, _⟩) rfl (fun _ => trivial) (fun K hK => ?_) AllS.nil
                    try (have hne := Nat.ne_of_lt h16b)
                    go_simp
                    first | refine gen_new ?_ | refine gen_newD ?_
                    intro wA h17 g17 hb h17b
                    have hge17 := hHeld.size
                    try (have h16 := h16.below hb)
                    try (have g16 := frz_below g16 h16b hb)
                    try (have h16b := Nat.lt_of_lt_of_le h16b hb.size)
                    refine hK.out _ _ ?_ (fun hHeld2 => ?_)
                    · intro _; (try dsimp only)
                      (first | exact hHeld | exact hHeld.trans (hb.mono hHeld.size) | exact hHeld.trans ((below_new _ _).mono hHeld.size) | exact hHeld.drew | exact (hHeld.setCell hge16 _).setCell hge16 _ | exact (hHeld.setCell hge17 _).setCell hge17 _)
                    clear hK K hHeld; have hHeld := hHeld2 (by decide); clear hHeld2
                    try simp only [Act.put, List.setIfInBounds_toArray, List.set_cons_zero, List.set_cons_succ]
                    refine wpAnyS_ready (rs := [15]) (by kernel_rfl) (by simp) ?_
                    refine AllS.cons (o := ⟨_, _, _, _, _, _⟩) rfl (fun _ => trivial) (fun K hK => ?_) AllS.nil
                    go_simp
                    refine wcall ((rThrough_any cf0 s0 s1 l0 l1 v0 v1 _ _ ⟨B0, B1, B2⟩ ⟨B3, B4, B5⟩ HVa.out).mono ?_)
                    rintro e w' ⟨rfl, hb⟩
                    try (have h16 := h16.below hb)
                    try (have g16 := frz_below g16 h16b hb)
                    try (have h16b := Nat.lt_of_lt_of_le h16b hb.size)
                    try (have h17 := h17.below hb)
                    try (have g17 := frz_below g17 h17b hb)
                    try (have h17b := Nat.lt_of_lt_of_le h17b hb.size)
                    gi_wp2_with fail
                    refine hK.out _ _ ?_ (fun hHeld2 => ?_)
                    · intro _; (try dsimp only)
                      (first | exact hHeld | exact hHeld.trans (hb.mono hHeld.size) | exact hHeld.trans ((below_new _ _).mono hHeld.size) | exact hHeld.drew | exact (hHeld.setCell hge16 _).setCell hge16 _ | exact (hHeld.setCell hge17 _).setCell hge17 _)
                    clear hK K hHeld; have hHeld := hHeld2 (by decide); clear hHeld2
                    try simp only [Act.put, List.setIfInBounds_toArray, List.set_cons_zero, List.set_cons_succ]
                    refine wpAnyS_take (i := 16) (oi := ⟨_, _, _, _, _, _⟩) (v := ?_) rfl (fun _ => trivial) (by kernel_rfl) (by kernel_rfl) (by kernel_rfl) (by kernel_rfl) (fun _ _ _ h => h) (Or.inl ⟨by rfl, ?_⟩) hHeld ?_
                    rotate_left
                    · (intro w hSw; (try dsimp only at hSw); go_simp; try (with_reducible rfl))
                    try simp only [Act.put, List.setIfInBounds_toArray, List.set_cons_zero, List.set_cons_succ]
                    refine wpAnyS_take (i := 17) (oi := ⟨_, _, _, _, _, _⟩) (v := ?_) rfl (fun _ => trivial) (by kernel_rfl) (by kernel_rfl) (by kernel_rfl) (by kernel_rfl) (fun _ _ _ h => h) (Or.inl ⟨by rfl, ?_⟩) hHeld ?_
                    rotate_left
                    · (intro w hSw; (try dsimp only at hSw); go_simp; try (with_reducible rfl))
                    try simp only [Act.put, List.setIfInBounds_toArray, List.set_cons_zero, List.set_cons_succ]
                    refine wpAnyS_take (i := 18) (oi := ⟨_, _, _, _, _, _⟩) (v := ?_) rfl (fun _ => trivial) (by kernel_rfl) (by kernel_rfl) (by kernel_rfl) (by kernel_rfl) (fun _ _ _ h => h) (Or.inl ⟨by rfl, ?_⟩) hHeld ?_
                    rotate_left
                    · (intro w hSw; (try dsimp only at hSw); go_simp; try (with_reducible rfl))
                    try simp only [Act.put, List.setIfInBounds_toArray, List.set_cons_zero, List.set_cons_succ]
                    refine wpAnyS_ready (rs := [21]) (by kernel_rfl) (by simp) ?_
                    refine AllS.cons (o := ⟨_, _, _, _, _, _⟩) rfl (fun _ => trivial) (fun K hK => ?_) AllS.nil
                    have hTB := two_boxes h16 h17 hne (.int .i64 (goF (wkF ⟨s0, s1⟩ ⟨l0, l1⟩ (decide ((cn : Int) ∈ dryL cs fs dry (days * 1440) us i))) ⟨v0, v1⟩).lo) (.int .i64 (goF (wkF ⟨s0, s1⟩ ⟨l0, l1⟩ (decide ((cn : Int) ∈ dryL cs fs dry (days * 1440) us i))) ⟨v0, v1⟩).hi) (.int .i64 (seF (wkF ⟨s0, s1⟩ ⟨l0, l1⟩ (decide ((cn : Int) ∈ dryL cs fs dry (days * 1440) us i))) ⟨v0, v1⟩).lo) (.int .i64 (seF (wkF ⟨s0, s1⟩ ⟨l0, l1⟩ (decide ((cn : Int) ∈ dryL cs fs dry (days * 1440) us i))) ⟨v0, v1⟩).hi)
                    obtain ⟨z0, z1⟩ := h16.c2
                    have y0 := g16 0
                    have y1 := g16 1
                    obtain ⟨x0, x1⟩ := h17.c2
                    have j0 := g17 0
                    have j1 := g17 1
                    go_simp
                    refine hK.out _ _ ?_ (fun hHeld2 => ?_)
                    · intro _; (try dsimp only)
                      (first | exact hHeld | exact hHeld.trans (hb.mono hHeld.size) | exact hHeld.trans ((below_new _ _).mono hHeld.size) | exact hHeld.drew | exact (hHeld.setCell hge16 _).setCell hge16 _ | exact (hHeld.setCell hge17 _).setCell hge17 _)
                    clear hK K hHeld; have hHeld := hHeld2 (by decide); clear hHeld2
                    try simp only [Act.put, List.setIfInBounds_toArray, List.set_cons_zero, List.set_cons_succ]
                    refine wpAnyS_ready (rs := [22]) (by kernel_rfl) (by simp) ?_
                    refine AllS.cons (o := ⟨_, _, _, _, _, _⟩) rfl (fun _ => trivial) (fun K hK => ?_) AllS.nil
                    go_simp
                    refine hK.out _ _ ?_ (fun hHeld2 => ?_)
                    · intro _; (try dsimp only)
                      (first | exact hHeld | exact hHeld.trans (hb.mono hHeld.size) | exact hHeld.trans ((below_new _ _).mono hHeld.size) | exact hHeld.drew | exact (hHeld.setCell hge16 _).setCell hge16 _ | exact (hHeld.setCell hge17 _).setCell hge17 _)
                    clear hK K hHeld; have hHeld := hHeld2 (by decide); clear hHeld2
                    try simp only [Act.put, List.setIfInBounds_toArray, List.set_cons_zero, List.set_cons_succ]
                    refine wpAnyS_done (by kernel_rfl) ?_ _
                    exact ⟨_, _, by first | rfl | trivial, by first | rfl | trivial, by first | rfl | trivial, by first | rfl | trivial, by first | rfl | trivial, by first | rfl | trivial, by first | rfl | trivial, by first | rfl | trivial, by first | rfl | trivial, by first | rfl | trivial, by first | rfl | trivial, by first | rfl | trivial, by first | rfl | trivial, by first | rfl | trivial, hTB.1, hTB.2, hge16, hge17, hHeld⟩
                  refine AllS.cons (o := ⟨_, _, _, _, _, _⟩) rfl (fun _ => trivial) (fun K hK => ?_) AllS.nil
                  try (have hne := Nat.ne_of_lt h16b)
                  go_simp
                  first | refine gen_new ?_ | refine gen_newD ?_
                  intro wA h17 g17 hb h17b
                  have hge17 := hHeld.size
                  try (have h16 := h16.below hb)
                  try (have g16 := frz_below g16 h16b hb)
                  try (have h16b := Nat.lt_of_lt_of_le h16b hb.size)
                  refine hK.out _ _ ?_ (fun hHeld2 => ?_)
                  · intro _; (try dsimp only)
                    (first | exact hHeld | exact hHeld.trans (hb.mono hHeld.size) | exact hHeld.trans ((below_new _ _).mono hHeld.size) | exact hHeld.drew | exact (hHeld.setCell hge16 _).setCell hge16 _ | exact (hHeld.setCell hge17 _).setCell hge17 _)
                  clear hK K hHeld; have hHeld := hHeld2 (by decide); clear hHeld2
                  try simp only [Act.put, List.setIfInBounds_toArray, List.set_cons_zero, List.set_cons_succ]
                  refine wpAnyS_ready (rs := [14]) (by kernel_rfl) (by simp) ?_
                  refine AllS.cons (o := ⟨_, _, _, _, _, _⟩) rfl (fun _ => trivial) (fun K hK => ?_) AllS.nil
                  go_simp
                  refine wcall ((rHas_any _ _ _ _ (cn : Int) _ ((Hdry.out.below hHeld).more hHeld.size) Hdn.out (by have := Hdn.out; have := Hdl.out; omega)).mono ?_)
                  rintro e w' ⟨rfl, hw⟩
                  have hb := below_of_eq hw
                  clear hw
                  try (have h16 := h16.below hb)
                  try (have g16 := frz_below g16 h16b hb)
                  try (have h16b := Nat.lt_of_lt_of_le h16b hb.size)
                  try (have h17 := h17.below hb)
                  try (have g17 := frz_below g17 h17b hb)
                  try (have h17b := Nat.lt_of_lt_of_le h17b hb.size)
                  gi_wp2_with fail
                  refine hK.out _ _ ?_ (fun hHeld2 => ?_)
                  · intro _; (try dsimp only)
                    (first | exact hHeld | exact hHeld.trans (hb.mono hHeld.size) | exact hHeld.trans ((below_new _ _).mono hHeld.size) | exact hHeld.drew | exact (hHeld.setCell hge16 _).setCell hge16 _ | exact (hHeld.setCell hge17 _).setCell hge17 _)
                  clear hK K hHeld; have hHeld := hHeld2 (by decide); clear hHeld2
                  try simp only [Act.put, List.setIfInBounds_toArray, List.set_cons_zero, List.set_cons_succ]
                  refine wpAnyS_ready (rs := [15]) (by kernel_rfl) (by simp) ?_
                  refine AllS.cons (o := ⟨_, _, _, _, _, _⟩) rfl (fun _ => trivial) (fun K hK => ?_) AllS.nil
                  go_simp
                  refine wcall ((rThrough_any cf0 s0 s1 l0 l1 v0 v1 _ _ ⟨B0, B1, B2⟩ ⟨B3, B4, B5⟩ HVa.out).mono ?_)
                  rintro e w' ⟨rfl, hb⟩
                  try (have h16 := h16.below hb)
                  try (have g16 := frz_below g16 h16b hb)
                  try (have h16b := Nat.lt_of_lt_of_le h16b hb.size)
                  try (have h17 := h17.below hb)
                  try (have g17 := frz_below g17 h17b hb)
                  try (have h17b := Nat.lt_of_lt_of_le h17b hb.size)
                  gi_wp2_with fail
                  refine hK.out _ _ ?_ (fun hHeld2 => ?_)
                  · intro _; (try dsimp only)
                    (first | exact hHeld | exact hHeld.trans (hb.mono hHeld.size) | exact hHeld.trans ((below_new _ _).mono hHeld.size) | exact hHeld.drew | exact (hHeld.setCell hge16 _).setCell hge16 _ | exact (hHeld.setCell hge17 _).setCell hge17 _)
                  clear hK K hHeld; have hHeld := hHeld2 (by decide); clear hHeld2
                  try simp only [Act.put, List.setIfInBounds_toArray, List.set_cons_zero, List.set_cons_succ]
                  refine wpAnyS_take (i := 16) (oi := ⟨_, _, _, _, _, _⟩) (v := ?_) rfl (fun _ => trivial) (by kernel_rfl) (by kernel_rfl) (by kernel_rfl) (by kernel_rfl) (fun _ _ _ h => h) (Or.inl ⟨by rfl, ?_⟩) hHeld ?_
                  rotate_left
                  · (intro w hSw; (try dsimp only at hSw); go_simp; try (with_reducible rfl))
                  try simp only [Act.put, List.setIfInBounds_toArray, List.set_cons_zero, List.set_cons_succ]
                  refine wpAnyS_take (i := 17) (oi := ⟨_, _, _, _, _, _⟩) (v := ?_) rfl (fun _ => trivial) (by kernel_rfl) (by kernel_rfl) (by kernel_rfl) (by kernel_rfl) (fun _ _ _ h => h) (Or.inl ⟨by rfl, ?_⟩) hHeld ?_
                  rotate_left
                  · (intro w hSw; (try dsimp only at hSw); go_simp; try (with_reducible rfl))
                  try simp only [Act.put, List.setIfInBounds_toArray, List.set_cons_zero, List.set_cons_succ]
                  refine wpAnyS_take (i := 18) (oi := ⟨_, _, _, _, _, _⟩) (v := ?_) rfl (fun _ => trivial) (by kernel_rfl) (by kernel_rfl) (by kernel_rfl) (by kernel_rfl) (fun _ _ _ h => h) (Or.inl ⟨by rfl, ?_⟩) hHeld ?_
                  rotate_left
                  · (intro w hSw; (try dsimp only at hSw); go_simp; try (with_reducible rfl))
                  try simp only [Act.put, List.setIfInBounds_toArray, List.set_cons_zero, List.set_cons_succ]
                  refine wpAnyS_ready (rs := [21]) (by kernel_rfl) (by simp) ?_
                  refine AllS.cons (o := ⟨_, _, _, _, _, _⟩) rfl (fun _ => trivial) (fun K hK => ?_) AllS.nil
                  have hTB := two_boxes h16 h17 hne (.int .i64 (goF (wkF ⟨s0, s1⟩ ⟨l0, l1⟩ (decide ((cn : Int) ∈ dryL cs fs dry (days * 1440) us i))) ⟨v0, v1⟩).lo) (.int .i64 (goF (wkF ⟨s0, s1⟩ ⟨l0, l1⟩ (decide ((cn : Int) ∈ dryL cs fs dry (days * 1440) us i))) ⟨v0, v1⟩).hi) (.int .i64 (seF (wkF ⟨s0, s1⟩ ⟨l0, l1⟩ (decide ((cn : Int) ∈ dryL cs fs dry (days * 1440) us i))) ⟨v0, v1⟩).lo) (.int .i64 (seF (wkF ⟨s0, s1⟩ ⟨l0, l1⟩ (decide ((cn : Int) ∈ dryL cs fs dry (days * 1440) us i))) ⟨v0, v1⟩).hi)
                  obtain ⟨z0, z1⟩ := h16.c2
                  have y0 := g16 0
                  have y1 := g16 1
                  obtain ⟨x0, x1⟩ := h17.c2
                  have j0 := g17 0
                  have j1 := g17 1
                  go_simp
                  refine hK.out _ _ ?_ (fun hHeld2 => ?_)
                  · intro _; (try dsimp only)
                    (first | exact hHeld | exact hHeld.trans (hb.mono hHeld.size) | exact hHeld.trans ((below_new _ _).mono hHeld.size) | exact hHeld.drew | exact (hHeld.setCell hge16 _).setCell hge16 _ | exact (hHeld.setCell hge17 _).setCell hge17 _)
                  clear hK K hHeld; have hHeld := hHeld2 (by decide); clear hHeld2
                  try simp only [Act.put, List.setIfInBounds_toArray, List.set_cons_zero, List.set_cons_succ]
                  refine wpAnyS_ready (rs := [22]) (by kernel_rfl) (by simp) ?_
                  refine AllS.cons (o := ⟨_, _, _, _, _, _⟩) rfl (fun _ => trivial) (fun K hK => ?_) AllS.nil
                  go_simp
                  refine hK.out _ _ ?_ (fun hHeld2 => ?_)
                  · intro _; (try dsimp only)
                    (first | exact hHeld | exact hHeld.trans (hb.mono hHeld.size) | exact hHeld.trans ((below_new _ _).mono hHeld.size) | exact hHeld.drew | exact (hHeld.setCell hge16 _).setCell hge16 _ | exact (hHeld.setCell hge17 _).setCell hge17 _)
                  clear hK K hHeld; have hHeld := hHeld2 (by decide); clear hHeld2
                  try simp only [Act.put, List.setIfInBounds_toArray, List.set_cons_zero, List.set_cons_succ]
                  refine wpAnyS_done (by kernel_rfl) ?_ _
                  exact ⟨_, _, by first | rfl | trivial, by first | rfl | trivial, by first | rfl | trivial, by first | rfl | trivial, by first | rfl | trivial, by first | rfl | trivial, by first | rfl | trivial, by first | rfl | trivial, by first | rfl | trivial, by first | rfl | trivial, by first | rfl | trivial, by first | rfl | trivial, by first | rfl | trivial, by first | rfl | trivial, hTB.1, hTB.2, hge16, hge17, hHeld⟩
                refine AllS.cons (o := ⟨_, _, _, _, _, _⟩) rfl (fun _ => trivial) (fun K hK => ?_) AllS.nil
                try (have hne := Nat.ne_of_lt h16b)
                go_simp
                first | refine gen_new ?_ | refine gen_newD ?_
                intro wA h17 g17 hb h17b
                have hge17 := hHeld.size
                try (have h16 := h16.below hb)
                try (have g16 := frz_below g16 h16b hb)
                try (have h16b := Nat.lt_of_lt_of_le h16b hb.size)
                refine hK.out _ _ ?_ (fun hHeld2 => ?_)
                · intro _; (try dsimp only)
                  (first | exact hHeld | exact hHeld.trans (hb.mono hHeld.size) | exact hHeld.trans ((below_new _ _).mono hHeld.size) | exact hHeld.drew | exact (hHeld.setCell hge16 _).setCell hge16 _ | exact (hHeld.setCell hge17 _).setCell hge17 _)
                clear hK K hHeld; have hHeld := hHeld2 (by decide); clear hHeld2
                try simp only [Act.put, List.setIfInBounds_toArray, List.set_cons_zero, List.set_cons_succ]
                refine wpAnyS_ready (rs := [14, 19]) (by kernel_rfl) (by simp) ?_
                refine AllS.cons (o := ⟨_, _, _, _, _, _⟩) rfl (fun _ => trivial) (fun K hK => ?_) ?_
                ·
                  go_simp
                  refine wcall ((rHas_any _ _ _ _ (cn : Int) _ ((Hdry.out.below hHeld).more hHeld.size) Hdn.out (by have := Hdn.out; have := Hdl.out; omega)).mono ?_)
                  rintro e w' ⟨rfl, hw⟩
                  have hb := below_of_eq hw
                  clear hw
                  try (have h16 := h16.below hb)
                  try (have g16 := frz_below g16 h16b hb)
                  try (have h16b := Nat.lt_of_lt_of_le h16b hb.size)
                  try (have h17 := h17.below hb)
                  try (have g17 := frz_below g17 h17b hb)
                  try (have h17b := Nat.lt_of_lt_of_le h17b hb.size)
                  gi_wp2_with fail
                  refine hK.out _ _ ?_ (fun hHeld2 => ?_)
                  · intro _; (try dsimp only)
                    (first | exact hHeld | exact hHeld.trans (hb.mono hHeld.size) | exact hHeld.trans ((below_new _ _).mono hHeld.size) | exact hHeld.drew | exact (hHeld.setCell hge16 _).setCell hge16 _ | exact (hHeld.setCell hge17 _).setCell hge17 _)
                  clear hK K hHeld; have hHeld := hHeld2 (by decide); clear hHeld2
                  try simp only [Act.put, List.setIfInBounds_toArray, List.set_cons_zero, List.set_cons_succ]
                  refine wpAnyS_ready (rs := [15, 19]) (by kernel_rfl) (by simp) ?_
                  refine AllS.cons (o := ⟨_, _, _, _, _, _⟩) rfl (fun _ => trivial) (fun K hK => ?_) ?_
                  ·
                    go_simp
                    refine wcall ((rThrough_any cf0 s0 s1 l0 l1 v0 v1 _ _ ⟨B0, B1, B2⟩ ⟨B3, B4, B5⟩ HVa.out).mono ?_)
                    rintro e w' ⟨rfl, hb⟩
                    try (have h16 := h16.below hb)
                    try (have g16 := frz_below g16 h16b hb)
                    try (have h16b := Nat.lt_of_lt_of_le h16b hb.size)
                    try (have h17 := h17.below hb)
                    try (have g17 := frz_below g17 h17b hb)
                    try (have h17b := Nat.lt_of_lt_of_le h17b hb.size)
                    gi_wp2_with fail
                    refine hK.out _ _ ?_ (fun hHeld2 => ?_)
                    · intro _; (try dsimp only)
                      (first | exact hHeld | exact hHeld.trans (hb.mono hHeld.size) | exact hHeld.trans ((below_new _ _).mono hHeld.size) | exact hHeld.drew | exact (hHeld.setCell hge16 _).setCell hge16 _ | exact (hHeld.setCell hge17 _).setCell hge17 _)
                    clear hK K hHeld; have hHeld := hHeld2 (by decide); clear hHeld2
                    try simp only [Act.put, List.setIfInBounds_toArray, List.set_cons_zero, List.set_cons_succ]
                    refine wpAnyS_take (i := 16) (oi := ⟨_, _, _, _, _, _⟩) (v := ?_) rfl (fun _ => trivial) (by kernel_rfl) (by kernel_rfl) (by kernel_rfl) (by kernel_rfl) (fun _ _ _ h => h) (Or.inl ⟨by rfl, ?_⟩) hHeld ?_
                    rotate_left
                    · (intro w hSw; (try dsimp only at hSw); go_simp; try (with_reducible rfl))
                    try simp only [Act.put, List.setIfInBounds_toArray, List.set_cons_zero, List.set_cons_succ]
                    refine wpAnyS_take (i := 17) (oi := ⟨_, _, _, _, _, _⟩) (v := ?_) rfl (fun _ => trivial) (by kernel_rfl) (by kernel_rfl) (by kernel_rfl) (by kernel_rfl) (fun _ _ _ h => h) (Or.inl ⟨by rfl, ?_⟩) hHeld ?_
                    rotate_left
                    · (intro w hSw; (try dsimp only at hSw); go_simp; try (with_reducible rfl))
                    try simp only [Act.put, List.setIfInBounds_toArray, List.set_cons_zero, List.set_cons_succ]
                    refine wpAnyS_take (i := 18) (oi := ⟨_, _, _, _, _, _⟩) (v := ?_) rfl (fun _ => trivial) (by kernel_rfl) (by kernel_rfl) (by kernel_rfl) (by kernel_rfl) (fun _ _ _ h => h) (Or.inl ⟨by rfl, ?_⟩) hHeld ?_
                    rotate_left
                    · (intro w hSw; (try dsimp only at hSw); go_simp; try (with_reducible rfl))
                    try simp only [Act.put, List.setIfInBounds_toArray, List.set_cons_zero, List.set_cons_succ]
                    refine wpAnyS_ready (rs := [19]) (by kernel_rfl) (by simp) ?_
                    refine AllS.cons (o := ⟨_, _, _, _, _, _⟩) rfl (fun _ => trivial) (fun K hK => ?_) AllS.nil
                    try (have hne := Nat.ne_of_gt h17b)
                    go_simp
                    first | refine gen_new ?_ | refine gen_newD ?_
                    intro wA h16 g16 hb h16b
                    have hge16 := hHeld.size
                    try (have h17 := h17.below hb)
                    try (have g17 := frz_below g17 h17b hb)
                    try (have h17b := Nat.lt_of_lt_of_le h17b hb.size)
                    refine hK.out _ _ ?_ (fun hHeld2 => ?_)
                    · intro _; (try dsimp only)
                      (first | exact hHeld | exact hHeld.trans (hb.mono hHeld.size) | exact hHeld.trans ((below_new _ _).mono hHeld.size) | exact hHeld.drew | exact (hHeld.setCell hge16 _).setCell hge16 _ | exact (hHeld.setCell hge17 _).setCell hge17 _)
                    clear hK K hHeld; have hHeld := hHeld2 (by decide); clear hHeld2
                    try simp only [Act.put, List.setIfInBounds_toArray, List.set_cons_zero, List.set_cons_succ]
                    refine wpAnyS_ready (rs := [21]) (by kernel_rfl) (by simp) ?_
                    refine AllS.cons (o := ⟨_, _, _, _, _, _⟩) rfl (fun _ => trivial) (fun K hK => ?_) AllS.nil
                    have hTB := two_boxes h16 h17 hne (.int .i64 (goF (wkF ⟨s0, s1⟩ ⟨l0, l1⟩ (decide ((cn : Int) ∈ dryL cs fs dry (days * 1440) us i))) ⟨v0, v1⟩).lo) (.int .i64 (goF (wkF ⟨s0, s1⟩ ⟨l0, l1⟩ (decide ((cn : Int) ∈ dryL cs fs dry (days * 1440) us i))) ⟨v0, v1⟩).hi) (.int .i64 (seF (wkF ⟨s0, s1⟩ ⟨l0, l1⟩ (decide ((cn : Int) ∈ dryL cs fs dry (days * 1440) us i))) ⟨v0, v1⟩).lo) (.int .i64 (seF (wkF ⟨s0, s1⟩ ⟨l0, l1⟩ (decide ((cn : Int) ∈ dryL cs fs dry (days * 1440) us i))) ⟨v0, v1⟩).hi)
                    obtain ⟨z0, z1⟩ := h16.c2
                    have y0 := g16 0
                    have y1 := g16 1
                    obtain ⟨x0, x1⟩ := h17.c2
                    have j0 := g17 0
                    have j1 := g17 1
                    go_simp
                    refine hK.out _ _ ?_ (fun hHeld2 => ?_)
                    · intro _; (try dsimp only)
                      (first | exact hHeld | exact hHeld.trans (hb.mono hHeld.size) | exact hHeld.trans ((below_new _ _).mono hHeld.size) | exact hHeld.drew | exact (hHeld.setCell hge16 _).setCell hge16 _ | exact (hHeld.setCell hge17 _).setCell hge17 _)
                    clear hK K hHeld; have hHeld := hHeld2 (by decide); clear hHeld2
                    try simp only [Act.put, List.setIfInBounds_toArray, List.set_cons_zero, List.set_cons_succ]
                    refine wpAnyS_ready (rs := [22]) (by kernel_rfl) (by simp) ?_
                    refine AllS.cons (o := ⟨_, _, _, _, _, _⟩) rfl (fun _ => trivial) (fun K hK => ?_) AllS.nil
                    go_simp
                    refine hK.out _ _ ?_ (fun hHeld2 => ?_)
                    · intro _; (try dsimp only)
                      (first | exact hHeld | exact hHeld.trans (hb.mono hHeld.size) | exact hHeld.trans ((below_new _ _).mono hHeld.size) | exact hHeld.drew | exact (hHeld.setCell hge16 _).setCell hge16 _ | exact (hHeld.setCell hge17 _).setCell hge17 _)
                    clear hK K hHeld; have hHeld := hHeld2 (by decide); clear hHeld2
                    try simp only [Act.put, List.setIfInBounds_toArray, List.set_cons_zero, List.set_cons_succ]
                    refine wpAnyS_done (by kernel_rfl) ?_ _
                    exact ⟨_, _, by first | rfl | trivial, by first | rfl | trivial, by first | rfl | trivial, by first | rfl | trivial, by first | rfl | trivial, by first | rfl | trivial, by first | rfl | trivial, by first | rfl | trivial, by first | rfl | trivial, by first | rfl | trivial, by first | rfl | trivial, by first | rfl | trivial, by first | rfl | trivial, by first | rfl | trivial, hTB.1, hTB.2, hge16, hge17, hHeld⟩
                  refine AllS.cons (o := ⟨_, _, _, _, _, _⟩) rfl (fun _ => trivial) (fun K hK => ?_) AllS.nil
                  try (have hne := Nat.ne_of_gt h17b)
                  go_simp
                  first | refine gen_new ?_ | refine gen_newD ?_
                  intro wA h16 g16 hb h16b
                  have hge16 := hHeld.size
                  try (have h17 := h17.below hb)
                  try (have g17 := frz_below g17 h17b hb)
                  try (have h17b := Nat.lt_of_lt_of_le h17b hb.size)
                  refine hK.out _ _ ?_ (fun hHeld2 => ?_)
                  · intro _; (try dsimp only)
                    (first | exact hHeld | exact hHeld.trans (hb.mono hHeld.size) | exact hHeld.trans ((below_new _ _).mono hHeld.size) | exact hHeld.drew | exact (hHeld.setCell hge16 _).setCell hge16 _ | exact (hHeld.setCell hge17 _).setCell hge17 _)
                  clear hK K hHeld; have hHeld := hHeld2 (by decide); clear hHeld2
                  try simp only [Act.put, List.setIfInBounds_toArray, List.set_cons_zero, List.set_cons_succ]
                  refine wpAnyS_ready (rs := [15]) (by kernel_rfl) (by simp) ?_
                  refine AllS.cons (o := ⟨_, _, _, _, _, _⟩) rfl (fun _ => trivial) (fun K hK => ?_) AllS.nil
                  go_simp
                  refine wcall ((rThrough_any cf0 s0 s1 l0 l1 v0 v1 _ _ ⟨B0, B1, B2⟩ ⟨B3, B4, B5⟩ HVa.out).mono ?_)
                  rintro e w' ⟨rfl, hb⟩
                  try (have h16 := h16.below hb)
                  try (have g16 := frz_below g16 h16b hb)
                  try (have h16b := Nat.lt_of_lt_of_le h16b hb.size)
                  try (have h17 := h17.below hb)
                  try (have g17 := frz_below g17 h17b hb)
                  try (have h17b := Nat.lt_of_lt_of_le h17b hb.size)
                  gi_wp2_with fail
                  refine hK.out _ _ ?_ (fun hHeld2 => ?_)
                  · intro _; (try dsimp only)
                    (first | exact hHeld | exact hHeld.trans (hb.mono hHeld.size) | exact hHeld.trans ((below_new _ _).mono hHeld.size) | exact hHeld.drew | exact (hHeld.setCell hge16 _).setCell hge16 _ | exact (hHeld.setCell hge17 _).setCell hge17 _)
                  clear hK K hHeld; have hHeld := hHeld2 (by decide); clear hHeld2
                  try simp only [Act.put, List.setIfInBounds_toArray, List.set_cons_zero, List.set_cons_succ]
                  refine wpAnyS_take (i := 16) (oi := ⟨_, _, _, _, _, _⟩) (v := ?_) rfl (fun _ => trivial) (by kernel_rfl) (by kernel_rfl) (by kernel_rfl) (by kernel_rfl) (fun _ _ _ h => h) (Or.inl ⟨by rfl, ?_⟩) hHeld ?_
                  rotate_left
                  · (intro w hSw; (try dsimp only at hSw); go_simp; try (with_reducible rfl))
                  try simp only [Act.put, List.setIfInBounds_toArray, List.set_cons_zero, List.set_cons_succ]
                  refine wpAnyS_take (i := 17) (oi := ⟨_, _, _, _, _, _⟩) (v := ?_) rfl (fun _ => trivial) (by kernel_rfl) (by kernel_rfl) (by kernel_rfl) (by kernel_rfl) (fun _ _ _ h => h) (Or.inl ⟨by rfl, ?_⟩) hHeld ?_
                  rotate_left
                  · (intro w hSw; (try dsimp only at hSw); go_simp; try (with_reducible rfl))
                  try simp only [Act.put, List.setIfInBounds_toArray, List.set_cons_zero, List.set_cons_succ]
                  refine wpAnyS_take (i := 18) (oi := ⟨_, _, _, _, _, _⟩) (v := ?_) rfl (fun _ => trivial) (by kernel_rfl) (by kernel_rfl) (by kernel_rfl) (by kernel_rfl) (fun _ _ _ h => h) (Or.inl ⟨by rfl, ?_⟩) hHeld ?_
                  rotate_left
                  · (intro w hSw; (try dsimp only at hSw); go_simp; try (with_reducible rfl))
                  try simp only [Act.put, List.setIfInBounds_toArray, List.set_cons_zero, List.set_cons_succ]
                  refine wpAnyS_ready (rs := [21]) (by kernel_rfl) (by simp) ?_
                  refine AllS.cons (o := ⟨_, _, _, _, _, _⟩) rfl (fun _ => trivial) (fun K hK => ?_) AllS.nil
                  have hTB := two_boxes h16 h17 hne (.int .i64 (goF (wkF ⟨s0, s1⟩ ⟨l0, l1⟩ (decide ((cn : Int) ∈ dryL cs fs dry (days * 1440) us i))) ⟨v0, v1⟩).lo) (.int .i64 (goF (wkF ⟨s0, s1⟩ ⟨l0, l1⟩ (decide ((cn : Int) ∈ dryL cs fs dry (days * 1440) us i))) ⟨v0, v1⟩).hi) (.int .i64 (seF (wkF ⟨s0, s1⟩ ⟨l0, l1⟩ (decide ((cn : Int) ∈ dryL cs fs dry (days * 1440) us i))) ⟨v0, v1⟩).lo) (.int .i64 (seF (wkF ⟨s0, s1⟩ ⟨l0, l1⟩ (decide ((cn : Int) ∈ dryL cs fs dry (days * 1440) us i))) ⟨v0, v1⟩).hi)
                  obtain ⟨z0, z1⟩ := h16.c2
                  have y0 := g16 0
                  have y1 := g16 1
                  obtain ⟨x0, x1⟩ := h17.c2
                  have j0 := g17 0
                  have j1 := g17 1
                  go_simp
                  refine hK.out _ _ ?_ (fun hHeld2 => ?_)
                  · intro _; (try dsimp only)
                    (first | exact hHeld | exact hHeld.trans (hb.mono hHeld.size) | exact hHeld.trans ((below_new _ _).mono hHeld.size) | exact hHeld.drew | exact (hHeld.setCell hge16 _).setCell hge16 _ | exact (hHeld.setCell hge17 _).setCell hge17 _)
                  clear hK K hHeld; have hHeld := hHeld2 (by decide); clear hHeld2
                  try simp only [Act.put, List.setIfInBounds_toArray, List.set_cons_zero, List.set_cons_succ]
                  refine wpAnyS_ready (rs := [22]) (by kernel_rfl) (by simp) ?_
                  refine AllS.cons (o := ⟨_, _, _, _, _, _⟩) rfl (fun _ => trivial) (fun K hK => ?_) AllS.nil
                  go_simp
                  refine hK.out _ _ ?_ (fun hHeld2 => ?_)
                  · intro _; (try dsimp only)
                    (first | exact hHeld | exact hHeld.trans (hb.mono hHeld.size) | exact hHeld.trans ((below_new _ _).mono hHeld.size) | exact hHeld.drew | exact (hHeld.setCell hge16 _).setCell hge16 _ | exact (hHeld.setCell hge17 _).setCell hge17 _)
                  clear hK K hHeld; have hHeld := hHeld2 (by decide); clear hHeld2
                  try simp only [Act.put, List.setIfInBounds_toArray, List.set_cons_zero, List.set_cons_succ]
                  refine wpAnyS_done (by kernel_rfl) ?_ _
                  exact ⟨_, _, by first | rfl | trivial, by first | rfl | trivial, by first | rfl | trivial, by first | rfl | trivial, by first | rfl | trivial, by first | rfl | trivial, by first | rfl | trivial, by first | rfl | trivial, by first | rfl | trivial, by first | rfl | trivial, by first | rfl | trivial, by first | rfl | trivial, by first | rfl | trivial, by first | rfl | trivial, hTB.1, hTB.2, hge16, hge17, hHeld⟩
                refine AllS.cons (o := ⟨_, _, _, _, _, _⟩) rfl (fun _ => trivial) (fun K hK => ?_) AllS.nil
                try (have hne := Nat.ne_of_gt h17b)
                go_simp
                first | refine gen_new ?_ | refine gen_newD ?_
                intro wA h16 g16 hb h16b
                have hge16 := hHeld.size
                try (have h17 := h17.below hb)
                try (have g17 := frz_below g17 h17b hb)
                try (have h17b := Nat.lt_of_lt_of_le h17b hb.size)
                refine hK.out _ _ ?_ (fun hHeld2 => ?_)
                · intro _; (try dsimp only)
                  (first | exact hHeld | exact hHeld.trans (hb.mono hHeld.size) | exact hHeld.trans ((below_new _ _).mono hHeld.size) | exact hHeld.drew | exact (hHeld.setCell hge16 _).setCell hge16 _ | exact (hHeld.setCell hge17 _).setCell hge17 _)
                clear hK K hHeld; have hHeld := hHeld2 (by decide); clear hHeld2
                try simp only [Act.put, List.setIfInBounds_toArray, List.set_cons_zero, List.set_cons_succ]
                refine wpAnyS_ready (rs := [14]) (by kernel_rfl) (by simp) ?_
                refine AllS.cons (o := ⟨_, _, _, _, _, _⟩) rfl (fun _ => trivial) (fun K hK => ?_) AllS.nil
                go_simp
                refine wcall ((rHas_any _ _ _ _ (cn : Int) _ ((Hdry.out.below hHeld).more hHeld.size) Hdn.out (by have := Hdn.out; have := Hdl.out; omega)).mono ?_)
                rintro e w' ⟨rfl, hw⟩
                have hb := below_of_eq hw
                clear hw
                try (have h16 := h16.below hb)
                try (have g16 := frz_below g16 h16b hb)
                try (have h16b := Nat.lt_of_lt_of_le h16b hb.size)
                try (have h17 := h17.below hb)
                try (have g17 := frz_below g17 h17b hb)
                try (have h17b := Nat.lt_of_lt_of_le h17b hb.size)
                gi_wp2_with fail
                refine hK.out _ _ ?_ (fun hHeld2 => ?_)
                · intro _; (try dsimp only)
                  (first | exact hHeld | exact hHeld.trans (hb.mono hHeld.size) | exact hHeld.trans ((below_new _ _).mono hHeld.size) | exact hHeld.drew | exact (hHeld.setCell hge16 _).setCell hge16 _ | exact (hHeld.setCell hge17 _).setCell hge17 _)
                clear hK K hHeld; have hHeld := hHeld2 (by decide); clear hHeld2
                try simp only [Act.put, List.setIfInBounds_toArray, List.set_cons_zero, List.set_cons_succ]
                refine wpAnyS_ready (rs := [15]) (by kernel_rfl) (by simp) ?_
                refine AllS.cons (o := ⟨_, _, _, _, _, _⟩) rfl (fun _ => trivial) (fun K hK => ?_) AllS.nil
                go_simp
                refine wcall ((rThrough_any cf0 s0 s1 l0 l1 v0 v1 _ _ ⟨B0, B1, B2⟩ ⟨B3, B4, B5⟩ HVa.out).mono ?_)
                rintro e w' ⟨rfl, hb⟩
                try (have h16 := h16.below hb)
                try (have g16 := frz_below g16 h16b hb)
                try (have h16b := Nat.lt_of_lt_of_le h16b hb.size)
                try (have h17 := h17.below hb)
                try (have g17 := frz_below g17 h17b hb)
                try (have h17b := Nat.lt_of_lt_of_le h17b hb.size)
                gi_wp2_with fail
                refine hK.out _ _ ?_ (fun hHeld2 => ?_)
                · intro _; (try dsimp only)
                  (first | exact hHeld | exact hHeld.trans (hb.mono hHeld.size) | exact hHeld.trans ((below_new _ _).mono hHeld.size) | exact hHeld.drew | exact (hHeld.setCell hge16 _).setCell hge16 _ | exact (hHeld.setCell hge17 _).setCell hge17 _)
                clear hK K hHeld; have hHeld := hHeld2 (by decide); clear hHeld2
                try simp only [Act.put, List.setIfInBounds_toArray, List.set_cons_zero, List.set_cons_succ]
                refine wpAnyS_take (i := 16) (oi := ⟨_, _, _, _, _, _⟩) (v := ?_) rfl (fun _ => trivial) (by kernel_rfl) (by kernel_rfl) (by kernel_rfl) (by kernel_rfl) (fun _ _ _ h => h) (Or.inl ⟨by rfl, ?_⟩) hHeld ?_
                rotate_left
                · (intro w hSw; (try dsimp only at hSw); go_simp; try (with_reducible rfl))
                try simp only [Act.put, List.setIfInBounds_toArray, List.set_cons_zero, List.set_cons_succ]
                refine wpAnyS_take (i := 17) (oi := ⟨_, _, _, _, _, _⟩) (v := ?_) rfl (fun _ => trivial) (by kernel_rfl) (by kernel_rfl) (by kernel_rfl) (by kernel_rfl) (fun _ _ _ h => h) (Or.inl ⟨by rfl, ?_⟩) hHeld ?_
                rotate_left
                · (intro w hSw; (try dsimp only at hSw); go_simp; try (with_reducible rfl))
                try simp only [Act.put, List.setIfInBounds_toArray, List.set_cons_zero, List.set_cons_succ]
                refine wpAnyS_take (i := 18) (oi := ⟨_, _, _, _, _, _⟩) (v := ?_) rfl (fun _ => trivial) (by kernel_rfl) (by kernel_rfl) (by kernel_rfl) (by kernel_rfl) (fun _ _ _ h => h) (Or.inl ⟨by rfl, ?_⟩) hHeld ?_
                rotate_left
                · (intro w hSw; (try dsimp only at hSw); go_simp; try (with_reducible rfl))
                try simp only [Act.put, List.setIfInBounds_toArray, List.set_cons_zero, List.set_cons_succ]
                refine wpAnyS_ready (rs := [21]) (by kernel_rfl) (by simp) ?_
                refine AllS.cons (o := ⟨_, _, _, _, _, _⟩) rfl (fun _ => trivial) (fun K hK => ?_) AllS.nil
                have hTB := two_boxes h16 h17 hne (.int .i64 (goF (wkF ⟨s0, s1⟩ ⟨l0, l1⟩ (decide ((cn : Int) ∈ dryL cs fs dry (days * 1440) us i))) ⟨v0, v1⟩).lo) (.int .i64 (goF (wkF ⟨s0, s1⟩ ⟨l0, l1⟩ (decide ((cn : Int) ∈ dryL cs fs dry (days * 1440) us i))) ⟨v0, v1⟩).hi) (.int .i64 (seF (wkF ⟨s0, s1⟩ ⟨l0, l1⟩ (decide ((cn : Int) ∈ dryL cs fs dry (days * 1440) us i))) ⟨v0, v1⟩).lo) (.int .i64 (seF (wkF ⟨s0, s1⟩ ⟨l0, l1⟩ (decide ((cn : Int) ∈ dryL cs fs dry (days * 1440) us i))) ⟨v0, v1⟩).hi)
                obtain ⟨z0, z1⟩ := h16.c2
                have y0 := g16 0
                have y1 := g16 1
                obtain ⟨x0, x1⟩ := h17.c2
                have j0 := g17 0
                have j1 := g17 1
                go_simp
                refine hK.out _ _ ?_ (fun hHeld2 => ?_)
                · intro _; (try dsimp only)
                  (first | exact hHeld | exact hHeld.trans (hb.mono hHeld.size) | exact hHeld.trans ((below_new _ _).mono hHeld.size) | exact hHeld.drew | exact (hHeld.setCell hge16 _).setCell hge16 _ | exact (hHeld.setCell hge17 _).setCell hge17 _)
                clear hK K hHeld; have hHeld := hHeld2 (by decide); clear hHeld2
                try simp only [Act.put, List.setIfInBounds_toArray, List.set_cons_zero, List.set_cons_succ]
                refine wpAnyS_ready (rs := [22]) (by kernel_rfl) (by simp) ?_
                refine AllS.cons (o := ⟨_, _, _, _, _, _⟩) rfl (fun _ => trivial) (fun K hK => ?_) AllS.nil
                go_simp
                refine hK.out _ _ ?_ (fun hHeld2 => ?_)
                · intro _; (try dsimp only)
                  (first | exact hHeld | exact hHeld.trans (hb.mono hHeld.size) | exact hHeld.trans ((below_new _ _).mono hHeld.size) | exact hHeld.drew | exact (hHeld.setCell hge16 _).setCell hge16 _ | exact (hHeld.setCell hge17 _).setCell hge17 _)
                clear hK K hHeld; have hHeld := hHeld2 (by decide); clear hHeld2
                try simp only [Act.put, List.setIfInBounds_toArray, List.set_cons_zero, List.set_cons_succ]
                refine wpAnyS_done (by kernel_rfl) ?_ _
                exact ⟨_, _, by first | rfl | trivial, by first | rfl | trivial, by first | rfl | trivial, by first | rfl | trivial, by first | rfl | trivial, by first | rfl | trivial, by first | rfl | trivial, by first | rfl | trivial, by first | rfl | trivial, by first | rfl | trivial, by first | rfl | trivial, by first | rfl | trivial, by first | rfl | trivial, by first | rfl | trivial, hTB.1, hTB.2, hge16, hge17, hHeld⟩
              rintro e a1 W1 hq
              cases e with
              | normal =>
                obtain ⟨b16, b17, hs, hd, s2, s3, s4, s8, s9, s10, s12, s13, s14, s15, s16, s17, h16, h17, hge16, hge17, hB1⟩ := hq
                rw [act_eq hs hd]
                obtain ⟨u, hu⟩ : ∃ u, u = slot a1 := ⟨_, rfl⟩
                rw [← hu] at s2 s3 s4 s8 s9 s10 s12 s13 s14 s15 s16 s17 ⊢
                have he : ({ tmps := ((List.range 125).map u).toArray, defers := [] } : Act) = { tmps := #[(u 0), (u 1), (u 2), (u 3), (u 4), (u 5), (u 6), (u 7), (u 8), (u 9), (u 10), (u 11), (u 12), (u 13), (u 14), (u 15), (u 16), (u 17), (u 18), (u 19), (u 20), (u 21), (u 22), (u 23), (u 24), (u 25), (u 26), (u 27), (u 28), (u 29), (u 30), (u 31), (u 32), (u 33), (u 34), (u 35), (u 36), (u 37), (u 38), (u 39), (u 40), (u 41), (u 42), (u 43), (u 44), (u 45), (u 46), (u 47), (u 48), (u 49), (u 50), (u 51), (u 52), (u 53), (u 54), (u 55), (u 56), (u 57), (u 58), (u 59), (u 60), (u 61), (u 62), (u 63), (u 64), (u 65), (u 66), (u 67), (u 68), (u 69), (u 70), (u 71), (u 72), (u 73), (u 74), (u 75), (u 76), (u 77), (u 78), (u 79), (u 80), (u 81), (u 82), (u 83), (u 84), (u 85), (u 86), (u 87), (u 88), (u 89), (u 90), (u 91), (u 92), (u 93), (u 94), (u 95), (u 96), (u 97), (u 98), (u 99), (u 100), (u 101), (u 102), (u 103), (u 104), (u 105), (u 106), (u 107), (u 108), (u 109), (u 110), (u 111), (u 112), (u 113), (u 114), (u 115), (u 116), (u 117), (u 118), (u 119), (u 120), (u 121), (u 122), (u 123), (u 124)], defers := [] } := rfl
                rw [he, s2, s3, s4, s8, s9, s10, s12, s13, s14, s15, s16, s17]
                clear he hs hd hu s2 s3 s4 s8 s9 s10 s12 s13 s14 s15 s16 s17
                obtain ⟨X, hX⟩ : ∃ X, X = (wkF ⟨s0, s1⟩ ⟨l0, l1⟩ (decide ((cn : Int) ∈ dryL cs fs dry (days * 1440) us i))) := ⟨_, rfl⟩
                rw [← hX] at h16 h17
                have HWX := hide (Hwk.out.trans hX.symm)
                have hXw : X.wf := by rw [hX]; exact Hwf.out
                clear hX
                have HC1 := hide (HCq.out.below hB1)
                have H121 := hide (H12.out.below hB1)
                have G121 := hide (frz_below G12.out H12.out.1 hB1)
                have H17 := hide h17; have H16 := hide h16
                have hgl1 : gl < W1.heap.size := (own_block HC1.out.ol (g := gl) rfl).2
                obtain ⟨y, hy⟩ : ∃ y, LL[cn]? = some y := ⟨_, List.getElem?_eq_getElem (by rw [Hbd.out.2.2]; exact hcn)⟩
                have Hy := hide hy
                have Hcl := hide (own_sp HC1.out.ol hy)
                have hk60 : i < 60 := by omega
                have HBL := hide (show (0 ≤ y.lo ∧ y.lo ≤ 1000000000000000) ∧ (0 ≤ y.hi ∧ y.hi ≤ 1000000000000000) from by
                  have := Hbd.out.2.1 y (List.mem_of_getElem? hy)
                  omega)
                have HSE := hide (seF_amt hXw HVa.out)
                have hbp1 : bp < wq.heap.size := hbp
                have cp1 := (hB1.cell (p := ⟨bp, offp + j, none⟩) hbp).trans cp0
                have hbp1 : bp < W1.heap.size := Nat.lt_of_lt_of_le hbp hB1.size
                obtain ⟨ylo, yhi⟩ := y
                dsimp only at HBL Hcl
                have hs1 := hB1.size
                clear hy h16 h17 hXw e0 e1 e2 e3 e4 cp0
                gi_wp2_with fail
                refine wpIn_region_S (S := (fun W2 => Below W1.heap.size W1 W2)) (z := 15) (by kernel_rfl) (by (try dsimp only); exact (Below.refl _ _).drew) (fun hHeld => ?_)
                refine wpAnyS_take (i := 0) (oi := ⟨_, _, _, _, _, _⟩) (v := ?_) rfl (fun _ => trivial) (by kernel_rfl) (by kernel_rfl) (by kernel_rfl) (by kernel_rfl) (fun _ _ _ h => h) (Or.inl ⟨by rfl, ?_⟩) hHeld ?_
                rotate_left
                · (intro w hSw; (try dsimp only at hSw); go_simp; try (with_reducible rfl))
                try simp only [Act.put, List.setIfInBounds_toArray, List.set_cons_zero, List.set_cons_succ]
                refine wpAnyS_take (i := 1) (oi := ⟨_, _, _, _, _, _⟩) (v := ?_) rfl (fun _ => trivial) (by kernel_rfl) (by kernel_rfl) (by kernel_rfl) (by kernel_rfl) (fun _ _ _ h => h) (Or.inl ⟨by rfl, ?_⟩) hHeld ?_
                rotate_left
                · (intro w hSw; (try dsimp only at hSw); go_simp; try (with_reducible rfl))
                try simp only [Act.put, List.setIfInBounds_toArray, List.set_cons_zero, List.set_cons_succ]
                refine wpAnyS_take (i := 2) (oi := ⟨_, _, _, _, _, _⟩) (v := ?_) rfl (fun _ => trivial) (by kernel_rfl) (by kernel_rfl) (by kernel_rfl) (by kernel_rfl) (fun _ _ _ h => h) (Or.inl ⟨by rfl, ?_⟩) hHeld ?_
                rotate_left
                · (intro w hSw; (try dsimp only at hSw); go_simp; try (with_reducible rfl))
                try simp only [Act.put, List.setIfInBounds_toArray, List.set_cons_zero, List.set_cons_succ]
                refine wpAnyS_take (i := 3) (oi := ⟨_, _, _, _, _, _⟩) (v := ?_) rfl (fun _ => trivial) (by kernel_rfl) (by kernel_rfl) (by kernel_rfl) (by kernel_rfl) (fun _ _ _ h => h) (Or.inl ⟨by rfl, ?_⟩) hHeld ?_
                rotate_left
                · (intro w hSw; (try dsimp only at hSw); go_simp; try (with_reducible rfl))
                try simp only [Act.put, List.setIfInBounds_toArray, List.set_cons_zero, List.set_cons_succ]
                refine wpAnyS_take (i := 4) (oi := ⟨_, _, _, _, _, _⟩) (v := ?_) rfl (fun _ => trivial) (by kernel_rfl) (by kernel_rfl) (by kernel_rfl) (by kernel_rfl) (fun _ _ _ h => h) (Or.inl ⟨by rfl, ?_⟩) hHeld ?_
                rotate_left
                · (intro w hSw; (try dsimp only at hSw); obtain ⟨o0, o1⟩ := (H17.out.below hSw).c2; have c0 := (hSw.cell (p := ⟨bp, offp + j, none⟩) hbp1).trans cp1; have g0 := (hSw.cell (p := ⟨gl, cn * 2, none⟩) hgl1).trans Hcl.out.1; have g1 := (hSw.cell (p := ⟨gl, cn * 2 + 1, none⟩) hgl1).trans Hcl.out.2; go_simp; try (with_reducible rfl))
                try simp only [Act.put, List.setIfInBounds_toArray, List.set_cons_zero, List.set_cons_succ]
                refine wpAnyS_take (i := 5) (oi := ⟨_, _, _, _, _, _⟩) (v := ?_) rfl (fun _ => trivial) (by kernel_rfl) (by kernel_rfl) (by kernel_rfl) (by kernel_rfl) (fun _ _ _ h => h) (Or.inl ⟨by rfl, ?_⟩) hHeld ?_
                rotate_left
                · (intro w hSw; (try dsimp only at hSw); go_simp; try (with_reducible rfl))
                try simp only [Act.put, List.setIfInBounds_toArray, List.set_cons_zero, List.set_cons_succ]
                refine wpAnyS_take (i := 6) (oi := ⟨_, _, _, _, _, _⟩) (v := ?_) rfl (fun _ => trivial) (by kernel_rfl) (by kernel_rfl) (by kernel_rfl) (by kernel_rfl) (fun _ _ _ h => h) (Or.inl ⟨by rfl, ?_⟩) hHeld ?_
                rotate_left
                · (intro w hSw; (try dsimp only at hSw); go_simp; try (with_reducible rfl))
                try simp only [Act.put, List.setIfInBounds_toArray, List.set_cons_zero, List.set_cons_succ]
                refine wpAnyS_take (i := 7) (oi := ⟨_, _, _, _, _, _⟩) (v := ?_) rfl (fun _ => trivial) (by kernel_rfl) (by kernel_rfl) (by kernel_rfl) (by kernel_rfl) (fun _ _ _ h => h) (Or.inl ⟨by rfl, ?_⟩) hHeld ?_
                rotate_left
                · (intro w hSw; (try dsimp only at hSw); go_simp; try (with_reducible rfl))
                try simp only [Act.put, List.setIfInBounds_toArray, List.set_cons_zero, List.set_cons_succ]
                refine wpAnyS_take (i := 8) (oi := ⟨_, _, _, _, _, _⟩) (v := ?_) rfl (fun _ => trivial) (by kernel_rfl) (by kernel_rfl) (by kernel_rfl) (by kernel_rfl) (fun _ _ _ h => h) (Or.inl ⟨by rfl, ?_⟩) hHeld ?_
                rotate_left
                · (intro w hSw; (try dsimp only at hSw); go_simp; try (with_reducible rfl))
                try simp only [Act.put, List.setIfInBounds_toArray, List.set_cons_zero, List.set_cons_succ]
                refine wpAnyS_take (i := 9) (oi := ⟨_, _, _, _, _, _⟩) (v := ?_) rfl (fun _ => trivial) (by kernel_rfl) (by kernel_rfl) (by kernel_rfl) (by kernel_rfl) (fun _ _ _ h => h) (Or.inl ⟨by rfl, ?_⟩) hHeld ?_
                rotate_left
                · (intro w hSw; (try dsimp only at hSw); obtain ⟨o0, o1⟩ := (H17.out.below hSw).c2; have c0 := (hSw.cell (p := ⟨bp, offp + j, none⟩) hbp1).trans cp1; have g0 := (hSw.cell (p := ⟨gl, cn * 2, none⟩) hgl1).trans Hcl.out.1; have g1 := (hSw.cell (p := ⟨gl, cn * 2 + 1, none⟩) hgl1).trans Hcl.out.2; go_simp; try (with_reducible rfl))
                try simp only [Act.put, List.setIfInBounds_toArray, List.set_cons_zero, List.set_cons_succ]
                refine wpAnyS_take (i := 10) (oi := ⟨_, _, _, _, _, _⟩) (v := ?_) rfl (fun _ => trivial) (by kernel_rfl) (by kernel_rfl) (by kernel_rfl) (by kernel_rfl) (fun _ _ _ h => h) (Or.inl ⟨by rfl, ?_⟩) hHeld ?_
                rotate_left
                · (intro w hSw; (try dsimp only at hSw); go_simp; try (with_reducible rfl))
                try simp only [Act.put, List.setIfInBounds_toArray, List.set_cons_zero, List.set_cons_succ]
                refine wpAnyS_take (i := 11) (oi := ⟨_, _, _, _, _, _⟩) (v := ?_) rfl (fun _ => trivial) (by kernel_rfl) (by kernel_rfl) (by kernel_rfl) (by kernel_rfl) (fun _ _ _ h => h) (Or.inl ⟨by rfl, ?_⟩) hHeld ?_
                rotate_left
                · (intro w hSw; (try dsimp only at hSw); obtain ⟨o0, o1⟩ := (H17.out.below hSw).c2; have c0 := (hSw.cell (p := ⟨bp, offp + j, none⟩) hbp1).trans cp1; have g0 := (hSw.cell (p := ⟨gl, cn * 2, none⟩) hgl1).trans Hcl.out.1; have g1 := (hSw.cell (p := ⟨gl, cn * 2 + 1, none⟩) hgl1).trans Hcl.out.2; go_simp; try (with_reducible rfl))
                try simp only [Act.put, List.setIfInBounds_toArray, List.set_cons_zero, List.set_cons_succ]
                refine wpAnyS_take (i := 12) (oi := ⟨_, _, _, _, _, _⟩) (v := ?_) rfl (fun _ => trivial) (by kernel_rfl) (by kernel_rfl) (by kernel_rfl) (by kernel_rfl) (fun _ _ _ h => h) (Or.inl ⟨by rfl, ?_⟩) hHeld ?_
                rotate_left
                · (intro w hSw; (try dsimp only at hSw); obtain ⟨o0, o1⟩ := (H17.out.below hSw).c2; have c0 := (hSw.cell (p := ⟨bp, offp + j, none⟩) hbp1).trans cp1; have g0 := (hSw.cell (p := ⟨gl, cn * 2, none⟩) hgl1).trans Hcl.out.1; have g1 := (hSw.cell (p := ⟨gl, cn * 2 + 1, none⟩) hgl1).trans Hcl.out.2; go_simp; try (with_reducible rfl))
                try simp only [Act.put, List.setIfInBounds_toArray, List.set_cons_zero, List.set_cons_succ]
                refine wpAnyS_ready (rs := [13]) (by kernel_rfl) (by simp) ?_
                refine AllS.cons (o := ⟨_, _, _, _, _, _⟩) rfl (fun _ => trivial) (fun K hK => ?_) AllS.nil
                go_simp
                refine wcall ((rAdd_any _ _ _ _ _ HBL.out.1 HBL.out.2 HSE.out.1 HSE.out.2).mono ?_)
                rintro e w' ⟨rfl, hb⟩
                gi_wp2_with fail
                refine hK.out _ _ ?_ (fun hHeld2 => ?_)
                · intro _; (try dsimp only)
                  (first | exact hHeld | exact hHeld.trans (hb.mono hHeld.size) | exact hHeld.trans ((below_new _ _).mono hHeld.size) | exact hHeld.drew)
                clear hK K hHeld; have hHeld := hHeld2 (by decide); clear hHeld2
                try simp only [Act.put, List.setIfInBounds_toArray, List.set_cons_zero, List.set_cons_succ]
                refine wpAnyS_take (i := 14) (oi := ⟨_, _, _, _, _, _⟩) (v := ?_) rfl (fun _ => trivial) (by kernel_rfl) (by kernel_rfl) (by kernel_rfl) (by kernel_rfl) (fun _ _ _ h => h) (Or.inl ⟨by rfl, ?_⟩) hHeld ?_
                rotate_left
                · (intro w hSw; (try dsimp only at hSw); go_simp; try (with_reducible rfl))
                try simp only [Act.put, List.setIfInBounds_toArray, List.set_cons_zero, List.set_cons_succ]
                refine wpAnyS_ready (rs := [15]) (by kernel_rfl) (by simp) ?_
                refine AllS.cons (o := ⟨_, _, _, _, _, _⟩) rfl (fun _ => trivial) (fun K hK => ?_) AllS.nil
                have z0 := (hHeld.cell (p := ⟨gl, cn * 2, none⟩) hgl1).trans Hcl.out.1
                have z1 := (hHeld.cell (p := ⟨gl, cn * 2 + 1, none⟩) hgl1).trans Hcl.out.2
                have y0 := own_frz (HC1.out.below hHeld).ol (cn * 2)
                have y1 := own_frz (HC1.out.below hHeld).ol (cn * 2 + 1)
                have hH := hHeld
                go_simp
                refine hK.out _ _ (fun h => absurd rfl h) (fun _ => ?_)
                clear hK K hHeld
                try simp only [Act.put, List.setIfInBounds_toArray, List.set_cons_zero, List.set_cons_succ]
                refine wpAnyS_done (by kernel_rfl) ?_ _
                have hgq : gl < wq.heap.size := by have := HKq.out.size; omega
                have hrq : wr.heap.size < wq.heap.size := by have := HKq.out.size; omega
                have hC12 := (HC1.out.below hH).put Hy.out (ylo + (seF X ⟨v0, v1⟩).lo) (yhi + (seF X ⟨v0, v1⟩).hi)
                have h1212 := ((H121.out.below hH).other (r := gl) (cn * 2) (.int .i64 (ylo + (seF X ⟨v0, v1⟩).lo)) (by omega)).other (r := gl) (cn * 2 + 1) (.int .i64 (yhi + (seF X ⟨v0, v1⟩).hi)) (by omega)
                have h1612 := ((H16.out.below hH).other (r := gl) (cn * 2) (.int .i64 (ylo + (seF X ⟨v0, v1⟩).lo)) (by omega)).other (r := gl) (cn * 2 + 1) (.int .i64 (yhi + (seF X ⟨v0, v1⟩).hi)) (by omega)
                have g1212 : ∀ j : Nat, ((w'.setCell ⟨gl, cn * 2, none⟩ (.int .i64 (ylo + (seF X ⟨v0, v1⟩).lo))).setCell ⟨gl, cn * 2 + 1, none⟩ (.int .i64 (yhi + (seF X ⟨v0, v1⟩).hi))).frozen? ⟨wr.heap.size, j, none⟩ = false := fun j => by
                  rw [World.frozen?_setCell, World.frozen?_setCell]
                  exact frz_below G121.out H121.out.1 hH j
                have hK12 : Kept (fun x => x < w7.heap.size ∧ ¬ x = gl ∧ ¬ x = wr.heap.size) w7 ((w'.setCell ⟨gl, cn * 2, none⟩ (.int .i64 (ylo + (seF X ⟨v0, v1⟩).lo))).setCell ⟨gl, cn * 2 + 1, none⟩ (.int .i64 (yhi + (seF X ⟨v0, v1⟩).hi))) :=
                  HKq.out.trans ((Kept.all _ hB1).trans ((Kept.all _ hH).trans (((Kept.setCell _ _ _).mono fun x _ hx => hx.2.1).trans ((Kept.setCell _ _ _).mono fun x _ hx => hx.2.1))))
                obtain ⟨w12, Hw12⟩ : ∃ w12, Hid (((w'.setCell ⟨gl, cn * 2, none⟩ (.int .i64 (ylo + (seF X ⟨v0, v1⟩).lo))).setCell ⟨gl, cn * 2 + 1, none⟩ (.int .i64 (yhi + (seF X ⟨v0, v1⟩).hi))) = w12) := ⟨_, hide rfl⟩
                rw [Hw12.out] at hC12 h1212 h1612 g1212 hK12 ⊢
                obtain ⟨z0, z1⟩ := h1212.c2
                obtain ⟨d0, d1⟩ := h1612.c2
                have y0 := g1212 0
                have y1 := g1212 1
                have HC12 := hide hC12; have HK12 := hide hK12
                clear hC12 hK12 hH hB1
                gi_wp2_with fail
                have hst : pathW cs (dryL cs fs dry (days * 1440) us i) ((pathK cs fs uf).take (j + 1)) (watersK cs fs dry (days * 1440) a b us i).2 ⟨a * (ut - u0), b * (ut - u0)⟩ = (LL.set cn ⟨ylo + (seF X ⟨v0, v1⟩).lo, yhi + (seF X ⟨v0, v1⟩).hi⟩, (goF X ⟨v0, v1⟩)) := by
                  rw [pathW_snoc Hxc.out]
                  unfold canalW
                  rw [← HV.out, ← HLL.out, HWX.out]
                  simp only [Int.toNat_natCast]
                  unfold putS atS
                  rw [Hy.out]
                  rfl
                have hkk : Kept (fun x => x ≠ wr.heap.size) w12 ((w12.setCell ⟨wr.heap.size, 0, none⟩ (.int .i64 (goF X ⟨v0, v1⟩).lo)).setCell ⟨wr.heap.size, 1, none⟩ (.int .i64 (goF X ⟨v0, v1⟩).hi)) := (Kept.setCell w12 ⟨wr.heap.size, 0, none⟩ _).trans (Kept.setCell _ ⟨wr.heap.size, 1, none⟩ _)
                refine ⟨j + 1, by omega, by omega, by first | rfl | trivial, by first | rfl | trivial, by first | rfl | trivial, by first | rfl | trivial, by first | rfl | trivial, by first | rfl | trivial, by first | rfl | trivial, by first | rfl | trivial, by first | rfl | trivial, by first | rfl | trivial, by first | rfl | trivial, by first | rfl | trivial, ?_, ?_, ?_, ?_⟩
                · rw [hst]
                  have hlo := HC12.out.lf
                  exact HC12.out.kept hkk (fun x hx => by omega) (by omega) (by omega)
                · rw [hst]
                  simpa using (h1212.set (j := 0) (.int .i64 (goF X ⟨v0, v1⟩).lo) (by simp)).set (j := 1) (.int .i64 (goF X ⟨v0, v1⟩).hi) (by simp)
                · intro j2
                  rw [World.frozen?_setCell, World.frozen?_setCell]
                  exact g1212 j2
                · exact HK12.out.trans (hkk.mono fun x _ hx => hx.2.2)
              | ret => exact hq.elim
              | exit id => exact hq.elim
              | goto t => exact hq.elim
              | panic ch => exact hq.elim
              | outgrown => exact hq.elim
            · obtain rfl : j = m := by omega
              obtain ⟨ufn, rfl⟩ : ∃ ufn : Nat, uf = ufn := ⟨uf.toNat, by omega⟩
              have hufn : ufn < fs.length := by rw [← Hnet.out.ef]; omega
              have hgf1 : gf < wq.heap.size := (own_block HCq.out.of (g := gf) rfl).2
              have c0q := (HKq.out.cell (p := ⟨bu, off + i * 3, none⟩) ⟨by show bu < _; omega, by show ¬ bu = gl; omega, by show ¬ bu = wr.heap.size; omega⟩ (by show bu < _; omega)).trans c07
              have hbuq : bu < wq.heap.size := by have := HKq.out.size; omega
              obtain ⟨FF, hFF⟩ : ∃ FF, FF = (watersK cs fs dry (days * 1440) a b us i).1 := ⟨_, rfl⟩
              rw [← hFF] at HCq Hwb
              obtain ⟨y, hy⟩ : ∃ y, FF[ufn]? = some y := ⟨_, List.getElem?_eq_getElem (by rw [Hwb.out.2.2.1]; exact hufn)⟩
              have Hy := hide hy
              have Hcl := hide (own_sp HCq.out.of hy)
              have hk60 : i < 60 := by omega
              have HBL := hide (show (0 ≤ y.lo ∧ y.lo ≤ 1000000000000000) ∧ (0 ≤ y.hi ∧ y.hi ≤ 1000000000000000) from by
                have := Hwb.out.1 y (List.mem_of_getElem? hy)
                omega)
              obtain ⟨ylo, yhi⟩ := y
              dsimp only at HBL Hcl
              have HFF := hide hFF
              clear hy hFF
              gi_wp2_with fail
              refine wpIn_region_S (S := (fun W2 => Below wq.heap.size wq W2)) (z := 17) (by kernel_rfl) (by (try dsimp only); exact (Below.refl _ _).drew) (fun hHeld => ?_)
              refine wpAnyS_take (i := 0) (oi := ⟨_, _, _, _, _, _⟩) (v := ?_) rfl (fun _ => trivial) (by kernel_rfl) (by kernel_rfl) (by kernel_rfl) (by kernel_rfl) (fun _ _ _ h => h) (Or.inl ⟨by rfl, ?_⟩) hHeld ?_
              rotate_left
              · (intro w hSw; (try dsimp only at hSw); go_simp; try (with_reducible rfl))
              try simp only [Act.put, List.setIfInBounds_toArray, List.set_cons_zero, List.set_cons_succ]
              refine wpAnyS_take (i := 1) (oi := ⟨_, _, _, _, _, _⟩) (v := ?_) rfl (fun _ => trivial) (by kernel_rfl) (by kernel_rfl) (by kernel_rfl) (by kernel_rfl) (fun _ _ _ h => h) (Or.inl ⟨by rfl, ?_⟩) hHeld ?_
              rotate_left
              · (intro w hSw; (try dsimp only at hSw); go_simp; try (with_reducible rfl))
              try simp only [Act.put, List.setIfInBounds_toArray, List.set_cons_zero, List.set_cons_succ]
              refine wpAnyS_take (i := 2) (oi := ⟨_, _, _, _, _, _⟩) (v := ?_) rfl (fun _ => trivial) (by kernel_rfl) (by kernel_rfl) (by kernel_rfl) (by kernel_rfl) (fun _ _ _ h => h) (Or.inl ⟨by rfl, ?_⟩) hHeld ?_
              rotate_left
              · (intro w hSw; (try dsimp only at hSw); go_simp; try (with_reducible rfl))
              try simp only [Act.put, List.setIfInBounds_toArray, List.set_cons_zero, List.set_cons_succ]
              refine wpAnyS_take (i := 3) (oi := ⟨_, _, _, _, _, _⟩) (v := ?_) rfl (fun _ => trivial) (by kernel_rfl) (by kernel_rfl) (by kernel_rfl) (by kernel_rfl) (fun _ _ _ h => h) (Or.inl ⟨by rfl, ?_⟩) hHeld ?_
              rotate_left
              · (intro w hSw; (try dsimp only at hSw); go_simp; try (with_reducible rfl))
              try simp only [Act.put, List.setIfInBounds_toArray, List.set_cons_zero, List.set_cons_succ]
              refine wpAnyS_take (i := 4) (oi := ⟨_, _, _, _, _, _⟩) (v := ?_) rfl (fun _ => trivial) (by kernel_rfl) (by kernel_rfl) (by kernel_rfl) (by kernel_rfl) (fun _ _ _ h => h) (Or.inl ⟨by rfl, ?_⟩) hHeld ?_
              rotate_left
              · (intro w hSw; (try dsimp only at hSw); go_simp; try (with_reducible rfl))
              try simp only [Act.put, List.setIfInBounds_toArray, List.set_cons_zero, List.set_cons_succ]
              refine wpAnyS_take (i := 5) (oi := ⟨_, _, _, _, _, _⟩) (v := ?_) rfl (fun _ => trivial) (by kernel_rfl) (by kernel_rfl) (by kernel_rfl) (by kernel_rfl) (fun _ _ _ h => h) (Or.inl ⟨by rfl, ?_⟩) hHeld ?_
              rotate_left
              · (intro w hSw; (try dsimp only at hSw); have c0 := (hSw.cell (p := ⟨bu, off + i * 3, none⟩) hbuq).trans c0q; obtain ⟨o0, o1⟩ := (H12.out.below hSw).c2; have g0 := (hSw.cell (p := ⟨gf, ufn * 2, none⟩) hgf1).trans Hcl.out.1; have g1 := (hSw.cell (p := ⟨gf, ufn * 2 + 1, none⟩) hgf1).trans Hcl.out.2; go_simp; try (with_reducible rfl))
              try simp only [Act.put, List.setIfInBounds_toArray, List.set_cons_zero, List.set_cons_succ]
              refine wpAnyS_take (i := 6) (oi := ⟨_, _, _, _, _, _⟩) (v := ?_) rfl (fun _ => trivial) (by kernel_rfl) (by kernel_rfl) (by kernel_rfl) (by kernel_rfl) (fun _ _ _ h => h) (Or.inl ⟨by rfl, ?_⟩) hHeld ?_
              rotate_left
              · (intro w hSw; (try dsimp only at hSw); go_simp; try (with_reducible rfl))
              try simp only [Act.put, List.setIfInBounds_toArray, List.set_cons_zero, List.set_cons_succ]
              refine wpAnyS_take (i := 7) (oi := ⟨_, _, _, _, _, _⟩) (v := ?_) rfl (fun _ => trivial) (by kernel_rfl) (by kernel_rfl) (by kernel_rfl) (by kernel_rfl) (fun _ _ _ h => h) (Or.inl ⟨by rfl, ?_⟩) hHeld ?_
              rotate_left
              · (intro w hSw; (try dsimp only at hSw); go_simp; try (with_reducible rfl))
              try simp only [Act.put, List.setIfInBounds_toArray, List.set_cons_zero, List.set_cons_succ]
              refine wpAnyS_take (i := 8) (oi := ⟨_, _, _, _, _, _⟩) (v := ?_) rfl (fun _ => trivial) (by kernel_rfl) (by kernel_rfl) (by kernel_rfl) (by kernel_rfl) (fun _ _ _ h => h) (Or.inl ⟨by rfl, ?_⟩) hHeld ?_
              rotate_left
              · (intro w hSw; (try dsimp only at hSw); go_simp; try (with_reducible rfl))
              try simp only [Act.put, List.setIfInBounds_toArray, List.set_cons_zero, List.set_cons_succ]
              refine wpAnyS_take (i := 9) (oi := ⟨_, _, _, _, _, _⟩) (v := ?_) rfl (fun _ => trivial) (by kernel_rfl) (by kernel_rfl) (by kernel_rfl) (by kernel_rfl) (fun _ _ _ h => h) (Or.inl ⟨by rfl, ?_⟩) hHeld ?_
              rotate_left
              · (intro w hSw; (try dsimp only at hSw); go_simp; try (with_reducible rfl))
              try simp only [Act.put, List.setIfInBounds_toArray, List.set_cons_zero, List.set_cons_succ]
              refine wpAnyS_take (i := 10) (oi := ⟨_, _, _, _, _, _⟩) (v := ?_) rfl (fun _ => trivial) (by kernel_rfl) (by kernel_rfl) (by kernel_rfl) (by kernel_rfl) (fun _ _ _ h => h) (Or.inl ⟨by rfl, ?_⟩) hHeld ?_
              rotate_left
              · (intro w hSw; (try dsimp only at hSw); go_simp; try (with_reducible rfl))
              try simp only [Act.put, List.setIfInBounds_toArray, List.set_cons_zero, List.set_cons_succ]
              refine wpAnyS_take (i := 11) (oi := ⟨_, _, _, _, _, _⟩) (v := ?_) rfl (fun _ => trivial) (by kernel_rfl) (by kernel_rfl) (by kernel_rfl) (by kernel_rfl) (fun _ _ _ h => h) (Or.inl ⟨by rfl, ?_⟩) hHeld ?_
              rotate_left
              · (intro w hSw; (try dsimp only at hSw); have c0 := (hSw.cell (p := ⟨bu, off + i * 3, none⟩) hbuq).trans c0q; obtain ⟨o0, o1⟩ := (H12.out.below hSw).c2; have g0 := (hSw.cell (p := ⟨gf, ufn * 2, none⟩) hgf1).trans Hcl.out.1; have g1 := (hSw.cell (p := ⟨gf, ufn * 2 + 1, none⟩) hgf1).trans Hcl.out.2; go_simp; try (with_reducible rfl))
              try simp only [Act.put, List.setIfInBounds_toArray, List.set_cons_zero, List.set_cons_succ]
              refine wpAnyS_take (i := 12) (oi := ⟨_, _, _, _, _, _⟩) (v := ?_) rfl (fun _ => trivial) (by kernel_rfl) (by kernel_rfl) (by kernel_rfl) (by kernel_rfl) (fun _ _ _ h => h) (Or.inl ⟨by rfl, ?_⟩) hHeld ?_
              rotate_left
              · (intro w hSw; (try dsimp only at hSw); go_simp; try (with_reducible rfl))
              try simp only [Act.put, List.setIfInBounds_toArray, List.set_cons_zero, List.set_cons_succ]
              refine wpAnyS_take (i := 13) (oi := ⟨_, _, _, _, _, _⟩) (v := ?_) rfl (fun _ => trivial) (by kernel_rfl) (by kernel_rfl) (by kernel_rfl) (by kernel_rfl) (fun _ _ _ h => h) (Or.inl ⟨by rfl, ?_⟩) hHeld ?_
              rotate_left
              · (intro w hSw; (try dsimp only at hSw); have c0 := (hSw.cell (p := ⟨bu, off + i * 3, none⟩) hbuq).trans c0q; obtain ⟨o0, o1⟩ := (H12.out.below hSw).c2; have g0 := (hSw.cell (p := ⟨gf, ufn * 2, none⟩) hgf1).trans Hcl.out.1; have g1 := (hSw.cell (p := ⟨gf, ufn * 2 + 1, none⟩) hgf1).trans Hcl.out.2; go_simp; try (with_reducible rfl))
              try simp only [Act.put, List.setIfInBounds_toArray, List.set_cons_zero, List.set_cons_succ]
              refine wpAnyS_take (i := 14) (oi := ⟨_, _, _, _, _, _⟩) (v := ?_) rfl (fun _ => trivial) (by kernel_rfl) (by kernel_rfl) (by kernel_rfl) (by kernel_rfl) (fun _ _ _ h => h) (Or.inl ⟨by rfl, ?_⟩) hHeld ?_
              rotate_left
              · (intro w hSw; (try dsimp only at hSw); have c0 := (hSw.cell (p := ⟨bu, off + i * 3, none⟩) hbuq).trans c0q; obtain ⟨o0, o1⟩ := (H12.out.below hSw).c2; have g0 := (hSw.cell (p := ⟨gf, ufn * 2, none⟩) hgf1).trans Hcl.out.1; have g1 := (hSw.cell (p := ⟨gf, ufn * 2 + 1, none⟩) hgf1).trans Hcl.out.2; go_simp; try (with_reducible rfl))
              try simp only [Act.put, List.setIfInBounds_toArray, List.set_cons_zero, List.set_cons_succ]
              refine wpAnyS_ready (rs := [15]) (by kernel_rfl) (by simp) ?_
              refine AllS.cons (o := ⟨_, _, _, _, _, _⟩) rfl (fun _ => trivial) (fun K hK => ?_) AllS.nil
              go_simp
              refine wcall ((rAdd_any _ _ _ _ _ HBL.out.1 HBL.out.2 HVa.out.1 HVa.out.2).mono ?_)
              rintro e w' ⟨rfl, hb⟩
              gi_wp2_with fail
              refine hK.out _ _ ?_ (fun hHeld2 => ?_)
              · intro _; (try dsimp only)
                (first | exact hHeld | exact hHeld.trans (hb.mono hHeld.size) | exact hHeld.trans ((below_new _ _).mono hHeld.size) | exact hHeld.drew)
              clear hK K hHeld; have hHeld := hHeld2 (by decide); clear hHeld2
              try simp only [Act.put, List.setIfInBounds_toArray, List.set_cons_zero, List.set_cons_succ]
              refine wpAnyS_take (i := 16) (oi := ⟨_, _, _, _, _, _⟩) (v := ?_) rfl (fun _ => trivial) (by kernel_rfl) (by kernel_rfl) (by kernel_rfl) (by kernel_rfl) (fun _ _ _ h => h) (Or.inl ⟨by rfl, ?_⟩) hHeld ?_
              rotate_left
              · (intro w hSw; (try dsimp only at hSw); go_simp; try (with_reducible rfl))
              try simp only [Act.put, List.setIfInBounds_toArray, List.set_cons_zero, List.set_cons_succ]
              refine wpAnyS_ready (rs := [17]) (by kernel_rfl) (by simp) ?_
              refine AllS.cons (o := ⟨_, _, _, _, _, _⟩) rfl (fun _ => trivial) (fun K hK => ?_) AllS.nil
              have z0 := (hHeld.cell (p := ⟨gf, ufn * 2, none⟩) hgf1).trans Hcl.out.1
              have z1 := (hHeld.cell (p := ⟨gf, ufn * 2 + 1, none⟩) hgf1).trans Hcl.out.2
              have y0 := own_frz (HCq.out.below hHeld).of (ufn * 2)
              have y1 := own_frz (HCq.out.below hHeld).of (ufn * 2 + 1)
              have hH := hHeld
              go_simp
              refine hK.out _ _ (fun h => absurd rfl h) (fun _ => ?_)
              clear hK K hHeld
              try simp only [Act.put, List.setIfInBounds_toArray, List.set_cons_zero, List.set_cons_succ]
              refine wpAnyS_done (by kernel_rfl) ?_ _
              have hst : watersK cs fs dry (days * 1440) a b us (i + 1) = (FF.set ufn ⟨ylo + v0, yhi + v1⟩, LL) := by
                have e1 := HV.out
                have e2 := HLL.out
                rw [List.take_of_length_le (by have := Hm.out; omega)] at e1 e2
                rw [watersK_succ]
                unfold useW
                rw [HX.out]
                simp only
                rw [← e1, ← e2, ← HFF.out, Int.toNat_natCast]
                unfold putS atS
                rw [Hy.out]
                rfl
              have hfin := (HCq.out.below hH).putF Hy.out (ylo + v0) (yhi + v1)
              gi_wp2_with fail
              refine ⟨i + 1, by omega, by omega, by first | rfl | trivial, by first | rfl | trivial, by first | rfl | trivial, by first | rfl | trivial, by first | rfl | trivial, by first | rfl | trivial, by first | rfl | trivial, by first | rfl | trivial, ?_⟩
              rw [hst]
              exact hfin
        | ret => exact hq.elim
        | exit id => exact hq.elim
        | goto t => exact hq.elim
        | panic ch => exact hq.elim
        | outgrown => exact hq.elim
      · obtain rfl : i = nu := by omega
        have HC := hide hC
        clear hC
        gi_wp2_with fail
        go_ret2
        refine ⟨gf, gl, rfl, ?_, ?_, HC.out.bl⟩
        · rw [← Hnu.out]; exact HC.out.of.mono (by omega)
        · rw [← Hnu.out]; exact HC.out.ol.mono (by omega)
  | ret => exact hq.elim
  | exit id => exact hq.elim
  | goto t => exact hq.elim
  | panic ch => exact hq.elim
  | outgrown => exact hq.elim
end Go.Proofs.Ytgklcilpohkpkaa
