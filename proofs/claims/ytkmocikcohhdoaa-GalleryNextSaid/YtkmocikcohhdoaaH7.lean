/- Gallery: the reference's Fallen, falls, Falls, by contract. -/
import Derived.Test.YtkmocikcohhdoaaHC
import Derived.Test.YtkmocikcohhdoaaF19
set_option linter.unusedVariables false
set_option linter.unusedSimpArgs false
namespace Go.Proofs.Ytkmocikcohhdoaa
open Go.RowKit Go.Shelf
attribute [local go_sem] ite_min ite_max
set_option maxHeartbeats 4000000 in
set_option maxRecDepth 100000 in
theorem rfallen_any (A : Option Addr) (g : List Rc) (t : Sp) (k n c : Nat) (w : World) (hn : n = g.length) (hk : k < n) (hm : n ≤ 1000) (hx : Rd w w.heap.size Rc.cells A g) :
    Calls Try.prog 41 #[.slice A n c, .int .i64 k, .agg #[.int .i64 t.lo, .int .i64 t.hi]] w fun e w' => ∃ gq cq, e = .returned (.slice (some ⟨gq, 0, none⟩) n cq) ∧ Own w' w.heap.size 96 6 Rc.cells (.slice (some ⟨gq, 0, none⟩) n cq) (fallS g k t) ∧ Below w.heap.size w w' := by
  obtain ⟨b5, w1, e5, ew1, hx5, hb1, hz1⟩ := mk_bx w #[.int .i64 t.lo, .int .i64 t.hi] 24
  obtain ⟨b9, w2, e9, ew2, ho2, hb2⟩ := mk_own (cells := Rc.cells) w1 #[] 96 6 [] Rc.len rfl (by simp) w1.heap.size (Nat.le_refl _)
  have e59 : b9 = b5 + 1 := by have := e9.out; omega
  subst e59
  have hB2 := hb1.trans (hb2.mono hb1.size)
  have hx52 := hx5.bel hb2
  have Hx := hide (hx.below hB2); have Ho := hide ho2; have Hn := hide hn; have Hl : Hid (g.length = n) := hide hn.symm
  have hs2 : w1.heap.size ≤ w2.heap.size := hb2.size
  have hb5w : b5 < w1.heap.size := hx5.lt
  obtain ⟨r, hr⟩ : ∃ r, g[k]? = some r := ⟨_, List.getElem?_eq_getElem (by omega)⟩
  have Hr := hide hr
  clear hx ho2 hn hr
  go_enter Try.func41, Try.ntmps41
  go_wp2_with (at_builtin; go_loud (rw [ew1.out, e5.out, ew2.out]); go_loud (refine wpList_app (v := .slice (some ⟨b5 + 1, 0, none⟩) 0 0) (xs := []) (ys := g) (n := n) el_rc rfl (.tmp 9) (.tmp 10) rfl rfl Ho.out Hl.out rfl Hx.out (by have := Hl.out; simp; omega) hs2 ?_); go_loud (intro vv wv hown1 hg1 hat1); go_loud (rw [List.nil_append] at hown1); go_loud (have hb1v := own_grown Ho.out hb2 hg1 (Nat.le_refl _)); go_loud (obtain ⟨gq, cq, rfl, hgq1, hgq2⟩ := hown1.blkn Hl.out (by omega)); go_loud (obtain ⟨d0, d1, d2, d3⟩ := own_rc2 hown1 Hr.out Hn.out); go_loud (obtain ⟨q0, q1, _, _⟩ := (hx5.bel hb1v).w2); go_loud (have Hown := hide hown1); go_loud (have ib1 : (k : Int) < (n : Int) := by omega); go_loud (obtain ⟨b8, w8, e8, ew8, hx8, hb8, hz8⟩ := mk_bx wv #[.int .i64 r.cap.lo, .int .i64 r.cap.hi] 24); go_loud (have hown8 := hown1.bel hb8); go_loud (obtain ⟨y0, y1, y2, y3⟩ := own_rc2 hown8 Hr.out Hn.out); go_loud (obtain ⟨q2, q3, _, _⟩ := ((hx5.bel hb1v).bel hb8).w2); go_loud (rw [← ew8.out] at y0 y1 y2 y3 q2 q3); go_loud (have Hown8 := hide hown8); go_loud (clear hown8); go_loud (clear hown1 hg1 hat1))
  obtain ⟨hoc, hkc⟩ := own_cap Hown.out Hr.out ⟨min r.cap.lo t.lo, min r.cap.hi t.hi⟩ Hn.out
  simp only at hoc hkc
  have efall : g.set k ⟨⟨min r.cap.lo t.lo, min r.cap.hi t.hi⟩, r.leak, r.gain⟩ = fallS g k t := by
    unfold fallS fallR; rw [List.getD_eq_getElem?_getD, Hr.out]; rfl
  rw [efall] at hoc
  have hb1c := hb1v.trans (hkc.below (fun b hb => by omega) hb1v.size)
  have hbc := hb1.trans (hb1c.mono hb1.size)
  have Hoc := hide (hoc.mono hb1.size)
  clear hoc hkc efall
  go_ret
  exact ⟨gq, cq, rfl, Hoc.out.bel (below_new _ _), hbc.trans ((below_new _ _).mono hbc.size)⟩
set_option maxHeartbeats 4000000 in
set_option maxRecDepth 100000 in
theorem rfalls0_any (A A1 : Option Addr) (g : List Rc) (s : Sp) (l : List Ga) (t : Sp) (n c n1 c1 : Nat) (w : World) (hn : n = g.length) (hn20 : n ≤ 20) (hx : Rd w w.heap.size Rc.cells A g)
    (hnl : n1 = l.length) (hn1 : n1 ≤ 100) (hx1 : Rd w w.heap.size Ga.cells A1 l) (hfine : ∀ r ∈ g, r.fine) (hs : s.fine 1000000) (ht : t.fine 1000000) (hga : gaIn n l) (hgf : ∀ x ∈ l, x.flow.fine 13000000) :
    Calls Try.prog 77 #[.slice A n c, .agg #[.int .i64 s.lo, .int .i64 s.hi], .slice A1 n1 c1, .agg #[.int .i64 t.lo, .int .i64 t.hi]] w fun e w' => ∃ Al cl, e = .returned (.tuple #[.slice Al (falN g s l t n).length cl, .bool (fitS g l s).isSome]) ∧ Own w' w.heap.size 3 1 icell (.slice Al (falN g s l t n).length cl) ((falN g s l t n).map Int.ofNat) ∧ Below w.heap.size w w' := by
  obtain ⟨b5, w1, e5, ew1, hx5, hb1, hz1⟩ := mk_bx w #[.int .i64 s.lo, .int .i64 s.hi] 24
  obtain ⟨b7, w2, e7, ew2, hx7, hb2, hz2⟩ := mk_bx w1 #[.int .i64 t.lo, .int .i64 t.hi] 24
  have e57 : b5 + 1 = b7 := by have := e7.out; omega
  have hB2 := hb1.trans (hb2.mono hb1.size)
  replace hx5 := hx5.bel hb2
  have Hn := hide hn; have Hn1 := hide hnl; have Hx : Hid (Rd w2 w2.heap.size Rc.cells A g) := hide ((hx.below hB2).more hB2.size); have Hx1 : Hid (Rd w2 w2.heap.size Ga.cells A1 l) := hide ((hx1.below hB2).more hB2.size)
  have Hs := hide hs; have Hga := hide hga; have Hgf := hide hgf; have Hfine := hide hfine; have Ht := hide ht
  clear hn hnl hx hx1 hs hga hgf hfine ht hz1 hz2
  go_enter Try.func77, Try.ntmps77
  go_wp2_with fail
  rw [ew1.out, e5.out, e57, ew2.out]
  go_loopw [10, 11] (fun a i wr => ∃ (k : Nat) (va : Value), va = a ∧ i = .int .i64 k ∧ k ≤ n ∧ Own wr w2.heap.size 3 1 icell va ((falN g s l t k).map Int.ofNat) ∧ Below w2.heap.size w2 wr) (fun _ i _ => n - (intOf i).toNat)
  case atStart => exact ⟨0, _, rfl, rfl, by omega, Own.nil _ _ _ _ _, Below.refl _ _⟩
  case round =>
    obtain ⟨k, va, rfl, rfl, hk, hva, hb⟩ := hrel
    by_cases hlt : k < n
    · have Hva := hide hva; have Hb := hide hb
      have hx5r := hx5.bel hb
      have hx7r := hx7.bel hb
      have hva0 := fun q hq => (hva.blockG (g := q) hq).1
      have Hfl : Hid (n = (fallS g k t).length) := hide (by rw [fallS_len]; exact Hn.out)
      have HFit := hide (fun gq cq (wq : World) h1 h2 => rfit_any (some ⟨gq, 0, none⟩) A1 (fallS g k t) s l n cq n1 c1 wq Hfl.out hn20 h1 Hn1.out hn1 h2 (fallS_fine Hfine.out Ht.out) Hs.out Hga.out Hgf.out)
      clear hva hb
      cases hF : fitF g s l t k with
      | none =>
        have hp : RFitPost (fallS g k t) l s = fun w e w' => ∃ v, e = .returned (.tuple #[v, .bool false]) ∧ Own w' w.heap.size 24 2 Sp.cells v [] ∧ Below w.heap.size w w' := by funext w e w'; unfold fitF at hF; simp [RFitPost, hF]
        simp only [hp] at HFit
        have Hs2 := hide (show falN g s l t (k + 1) = falN g s l t k by rw [falN_succ, hF]; rfl)
        clear hF hp
        go_wp2_with fail
        refine wp_region_held_drew (S := (fun W => Below wr.heap.size wr W)) (by kernel_rfl) (by (try dsimp only); exact (Below.refl _ _).drew) (fun hHeld => ?_)
        generalize World.drew wr = Wd5 at hHeld ⊢
        have hbc := Below.refl Wd5.heap.size Wd5
        refine wpAnyH_take (i := 0) (oi := ⟨_, _, _, _, _, _⟩) (v := ?_) rfl (by kernel_rfl) (by kernel_rfl) (by kernel_rfl) (fun _ _ _ h => h) (Or.inl ⟨by rfl, ?_⟩) hHeld ?_
        rotate_left
        · (intro w hSw; (try dsimp only at hSw); go_simp; try (with_reducible rfl))
        try simp only [Act.put, List.setIfInBounds_toArray, List.set_cons_zero, List.set_cons_succ]
        refine wpAnyH_take (i := 1) (oi := ⟨_, _, _, _, _, _⟩) (v := ?_) rfl (by kernel_rfl) (by kernel_rfl) (by kernel_rfl) (fun _ _ _ h => h) (Or.inl ⟨by rfl, ?_⟩) hHeld ?_
        rotate_left
        · (intro w hSw; (try dsimp only at hSw); go_simp; try (with_reducible rfl))
        try simp only [Act.put, List.setIfInBounds_toArray, List.set_cons_zero, List.set_cons_succ]
        refine wpAnyH_take (i := 2) (oi := ⟨_, _, _, _, _, _⟩) (v := ?_) rfl (by kernel_rfl) (by kernel_rfl) (by kernel_rfl) (fun _ _ _ h => h) (Or.inl ⟨by rfl, ?_⟩) hHeld ?_
        rotate_left
        · (intro w hSw; (try dsimp only at hSw); obtain ⟨q0, q1, _, _⟩ := (hx5r.bel hSw).w2; obtain ⟨p0, p1, _, _⟩ := (hx7r.bel hSw).w2; go_simp; try (with_reducible rfl))
        try simp only [Act.put, List.setIfInBounds_toArray, List.set_cons_zero, List.set_cons_succ]
        refine wpAnyH_take (i := 4) (oi := ⟨_, _, _, _, _, _⟩) (v := ?_) rfl (by kernel_rfl) (by kernel_rfl) (by kernel_rfl) (fun _ _ _ h => h) (Or.inl ⟨by rfl, ?_⟩) hHeld ?_
        rotate_left
        · (intro w hSw; (try dsimp only at hSw); obtain ⟨q0, q1, _, _⟩ := (hx5r.bel hSw).w2; obtain ⟨p0, p1, _, _⟩ := (hx7r.bel hSw).w2; go_simp; try (with_reducible rfl))
        try simp only [Act.put, List.setIfInBounds_toArray, List.set_cons_zero, List.set_cons_succ]
        refine wpAnyH_take (i := 5) (oi := ⟨_, _, _, _, _, _⟩) (v := ?_) rfl (by kernel_rfl) (by kernel_rfl) (by kernel_rfl) (fun _ _ _ h => h) (Or.inl ⟨by rfl, ?_⟩) hHeld ?_
        rotate_left
        · (intro w hSw; (try dsimp only at hSw); go_simp; try (with_reducible rfl))
        try simp only [Act.put, List.setIfInBounds_toArray, List.set_cons_zero, List.set_cons_succ]
        refine wpAnyH_ready (rs := [3]) (by kernel_rfl) (by simp) ?_
        refine AllReadyH.cons (o := ⟨_, _, _, _, _, _⟩) rfl (fun K hK => ?_) AllReadyH.nil
        go_simp
        refine (rfallen_any A g t k n c _ Hn.out hlt (by omega) ((Hx.out.below (Hb.out.trans (hHeld.mono Hb.out.size))).more (Hb.out.trans (hHeld.mono Hb.out.size)).size)).mono ?_
        rintro e V26 ⟨gq, cq, rfl, hoq, hb⟩
        go_wp2_with fail
        have hHeldN := hHeld.trans (hb.mono hHeld.size)
        have hbc := hbc.trans (hb.mono hbc.size)
        refine hK.out _ _ ?_ (fun hHeld2 => ?_)
        · exact hHeldN
        clear hK K hHeld hHeldN hb; have hHeld := hHeld2; clear hHeld2
        try simp only [Act.put, List.setIfInBounds_toArray, List.set_cons_zero, List.set_cons_succ]
        refine wpAnyH_ready (rs := [6]) (by kernel_rfl) (by simp) ?_
        refine AllReadyH.cons (o := ⟨_, _, _, _, _, _⟩) rfl (fun K hK => ?_) AllReadyH.nil
        go_simp
        refine (HFit.out gq cq _ hoq.rdw ((Hx1.out.below (Hb.out.trans (hHeld.mono Hb.out.size))).more (Hb.out.trans (hHeld.mono Hb.out.size)).size)).mono ?_
        rintro e V29 ⟨vf, rfl, hov, hb⟩
        go_wp2_with fail
        have hHeldN := hHeld.trans (hb.mono hHeld.size)
        have hoq := hoq.bel hb
        have hbc := hbc.trans (hb.mono hbc.size)
        refine hK.out _ _ ?_ (fun hHeld2 => ?_)
        · exact hHeldN
        clear hK K hHeld hHeldN hb; have hHeld := hHeld2; clear hHeld2
        try simp only [Act.put, List.setIfInBounds_toArray, List.set_cons_zero, List.set_cons_succ]
        refine wpAnyH_take (i := 7) (oi := ⟨_, _, _, _, _, _⟩) (v := ?_) rfl (by kernel_rfl) (by kernel_rfl) (by kernel_rfl) (fun _ _ _ h => h) (Or.inl ⟨by rfl, ?_⟩) hHeld ?_
        rotate_left
        · (intro w hSw; (try dsimp only at hSw); go_simp; try (with_reducible rfl))
        try simp only [Act.put, List.setIfInBounds_toArray, List.set_cons_zero, List.set_cons_succ]
        refine wpAnyH_take (i := 8) (oi := ⟨_, _, _, _, _, _⟩) (v := ?_) rfl (by kernel_rfl) (by kernel_rfl) (by kernel_rfl) (fun _ _ _ h => h) (Or.inl ⟨by rfl, ?_⟩) hHeld ?_
        rotate_left
        · (intro w hSw; (try dsimp only at hSw); go_simp; try (with_reducible rfl))
        try simp only [Act.put, List.setIfInBounds_toArray, List.set_cons_zero, List.set_cons_succ]
        refine wpAnyH_take (i := 9) (oi := ⟨_, _, _, _, _, _⟩) (v := ?_) rfl (by kernel_rfl) (by kernel_rfl) (by kernel_rfl) (fun _ _ _ h => h) (Or.inl ⟨by rfl, ?_⟩) hHeld ?_
        rotate_left
        · (intro w hSw; (try dsimp only at hSw); go_simp; try (with_reducible rfl))
        try simp only [Act.put, List.setIfInBounds_toArray, List.set_cons_zero, List.set_cons_succ]
        refine wpAnyH_take (i := 10) (oi := ⟨_, _, _, _, _, _⟩) (v := ?_) rfl (by kernel_rfl) (by kernel_rfl) (by kernel_rfl) (fun _ _ _ h => h) (Or.inl ⟨by rfl, ?_⟩) hHeld ?_
        rotate_left
        · (intro w hSw; (try dsimp only at hSw); go_simp; try (with_reducible rfl))
        try simp only [Act.put, List.setIfInBounds_toArray, List.set_cons_zero, List.set_cons_succ]
        refine wpAnyH_take (i := 11) (oi := ⟨_, _, _, _, _, _⟩) (v := ?_) rfl (by kernel_rfl) (by kernel_rfl) (by kernel_rfl) (fun _ _ _ h => h) (Or.inl ⟨by rfl, ?_⟩) hHeld ?_
        rotate_left
        · (intro w hSw; (try dsimp only at hSw); go_simp; try (with_reducible rfl))
        try simp only [Act.put, List.setIfInBounds_toArray, List.set_cons_zero, List.set_cons_succ]
        refine wpAnyH_done (by kernel_rfl) ?_ _
        go_wp2_with fail
        exact ⟨⟨k + 1, va, rfl, by go_num, by omega, by rw [Hs2.out]; exact Hva.out.bel hHeld, Hb.out.trans (hHeld.mono Hb.out.size)⟩, by simp [intOf]; omega⟩
      | some F =>
        have hp : RFitPost (fallS g k t) l s = fun w e w' => ∃ v, e = .returned (.tuple #[v, .bool true]) ∧ Own w' w.heap.size 24 2 Sp.cells v F ∧ Below w.heap.size w w' := by funext w e w'; unfold fitF at hF; simp [RFitPost, hF]
        simp only [hp] at HFit
        have Hs2 := hide (show falN g s l t (k + 1) = falN g s l t k ++ [k] by rw [falN_succ, hF]; rfl)
        clear hF hp
        go_wp2_with fail
        refine wp_region_held_drew (S := (fun W => Below wr.heap.size wr W)) (by kernel_rfl) (by (try dsimp only); exact (Below.refl _ _).drew) (fun hHeld => ?_)
        generalize World.drew wr = Wd5 at hHeld ⊢
        have hbc := Below.refl Wd5.heap.size Wd5
        refine wpAnyH_take (i := 0) (oi := ⟨_, _, _, _, _, _⟩) (v := ?_) rfl (by kernel_rfl) (by kernel_rfl) (by kernel_rfl) (fun _ _ _ h => h) (Or.inl ⟨by rfl, ?_⟩) hHeld ?_
        rotate_left
        · (intro w hSw; (try dsimp only at hSw); go_simp; try (with_reducible rfl))
        try simp only [Act.put, List.setIfInBounds_toArray, List.set_cons_zero, List.set_cons_succ]
        refine wpAnyH_take (i := 1) (oi := ⟨_, _, _, _, _, _⟩) (v := ?_) rfl (by kernel_rfl) (by kernel_rfl) (by kernel_rfl) (fun _ _ _ h => h) (Or.inl ⟨by rfl, ?_⟩) hHeld ?_
        rotate_left
        · (intro w hSw; (try dsimp only at hSw); go_simp; try (with_reducible rfl))
        try simp only [Act.put, List.setIfInBounds_toArray, List.set_cons_zero, List.set_cons_succ]
        refine wpAnyH_take (i := 2) (oi := ⟨_, _, _, _, _, _⟩) (v := ?_) rfl (by kernel_rfl) (by kernel_rfl) (by kernel_rfl) (fun _ _ _ h => h) (Or.inl ⟨by rfl, ?_⟩) hHeld ?_
        rotate_left
        · (intro w hSw; (try dsimp only at hSw); obtain ⟨q0, q1, _, _⟩ := (hx5r.bel hSw).w2; obtain ⟨p0, p1, _, _⟩ := (hx7r.bel hSw).w2; go_simp; try (with_reducible rfl))
        try simp only [Act.put, List.setIfInBounds_toArray, List.set_cons_zero, List.set_cons_succ]
        refine wpAnyH_take (i := 4) (oi := ⟨_, _, _, _, _, _⟩) (v := ?_) rfl (by kernel_rfl) (by kernel_rfl) (by kernel_rfl) (fun _ _ _ h => h) (Or.inl ⟨by rfl, ?_⟩) hHeld ?_
        rotate_left
        · (intro w hSw; (try dsimp only at hSw); obtain ⟨q0, q1, _, _⟩ := (hx5r.bel hSw).w2; obtain ⟨p0, p1, _, _⟩ := (hx7r.bel hSw).w2; go_simp; try (with_reducible rfl))
        try simp only [Act.put, List.setIfInBounds_toArray, List.set_cons_zero, List.set_cons_succ]
        refine wpAnyH_take (i := 5) (oi := ⟨_, _, _, _, _, _⟩) (v := ?_) rfl (by kernel_rfl) (by kernel_rfl) (by kernel_rfl) (fun _ _ _ h => h) (Or.inl ⟨by rfl, ?_⟩) hHeld ?_
        rotate_left
        · (intro w hSw; (try dsimp only at hSw); go_simp; try (with_reducible rfl))
        try simp only [Act.put, List.setIfInBounds_toArray, List.set_cons_zero, List.set_cons_succ]
        refine wpAnyH_ready (rs := [3]) (by kernel_rfl) (by simp) ?_
        refine AllReadyH.cons (o := ⟨_, _, _, _, _, _⟩) rfl (fun K hK => ?_) AllReadyH.nil
        go_simp
        refine (rfallen_any A g t k n c _ Hn.out hlt (by omega) ((Hx.out.below (Hb.out.trans (hHeld.mono Hb.out.size))).more (Hb.out.trans (hHeld.mono Hb.out.size)).size)).mono ?_
        rintro e V26 ⟨gq, cq, rfl, hoq, hb⟩
        go_wp2_with fail
        have hHeldN := hHeld.trans (hb.mono hHeld.size)
        have hbc := hbc.trans (hb.mono hbc.size)
        refine hK.out _ _ ?_ (fun hHeld2 => ?_)
        · exact hHeldN
        clear hK K hHeld hHeldN hb; have hHeld := hHeld2; clear hHeld2
        try simp only [Act.put, List.setIfInBounds_toArray, List.set_cons_zero, List.set_cons_succ]
        refine wpAnyH_ready (rs := [6]) (by kernel_rfl) (by simp) ?_
        refine AllReadyH.cons (o := ⟨_, _, _, _, _, _⟩) rfl (fun K hK => ?_) AllReadyH.nil
        go_simp
        refine (HFit.out gq cq _ hoq.rdw ((Hx1.out.below (Hb.out.trans (hHeld.mono Hb.out.size))).more (Hb.out.trans (hHeld.mono Hb.out.size)).size)).mono ?_
        rintro e V29 ⟨vf, rfl, hov, hb⟩
        go_wp2_with fail
        have hHeldN := hHeld.trans (hb.mono hHeld.size)
        have hoq := hoq.bel hb
        have hbc := hbc.trans (hb.mono hbc.size)
        refine hK.out _ _ ?_ (fun hHeld2 => ?_)
        · exact hHeldN
        clear hK K hHeld hHeldN hb; have hHeld := hHeld2; clear hHeld2
        try simp only [Act.put, List.setIfInBounds_toArray, List.set_cons_zero, List.set_cons_succ]
        refine wpAnyH_take (i := 7) (oi := ⟨_, _, _, _, _, _⟩) (v := ?_) rfl (by kernel_rfl) (by kernel_rfl) (by kernel_rfl) (fun _ _ _ h => h) (Or.inl ⟨by rfl, ?_⟩) hHeld ?_
        rotate_left
        · (intro w hSw; (try dsimp only at hSw); go_simp; try (with_reducible rfl))
        try simp only [Act.put, List.setIfInBounds_toArray, List.set_cons_zero, List.set_cons_succ]
        refine wpAnyH_take (i := 8) (oi := ⟨_, _, _, _, _, _⟩) (v := ?_) rfl (by kernel_rfl) (by kernel_rfl) (by kernel_rfl) (fun _ _ _ h => h) (Or.inl ⟨by rfl, ?_⟩) hHeld ?_
        rotate_left
        · (intro w hSw; (try dsimp only at hSw); go_simp; try (with_reducible rfl))
        try simp only [Act.put, List.setIfInBounds_toArray, List.set_cons_zero, List.set_cons_succ]
        refine wpAnyH_take (i := 9) (oi := ⟨_, _, _, _, _, _⟩) (v := ?_) rfl (by kernel_rfl) (by kernel_rfl) (by kernel_rfl) (fun _ _ _ h => h) (Or.inl ⟨by rfl, ?_⟩) hHeld ?_
        rotate_left
        · (intro w hSw; (try dsimp only at hSw); go_simp; try (with_reducible rfl))
        try simp only [Act.put, List.setIfInBounds_toArray, List.set_cons_zero, List.set_cons_succ]
        refine wpAnyH_take (i := 10) (oi := ⟨_, _, _, _, _, _⟩) (v := ?_) rfl (by kernel_rfl) (by kernel_rfl) (by kernel_rfl) (fun _ _ _ h => h) (Or.inl ⟨by rfl, ?_⟩) hHeld ?_
        rotate_left
        · (intro w hSw; (try dsimp only at hSw); go_simp; try (with_reducible rfl))
        try simp only [Act.put, List.setIfInBounds_toArray, List.set_cons_zero, List.set_cons_succ]
        refine wpAnyH_take (i := 11) (oi := ⟨_, _, _, _, _, _⟩) (v := ?_) rfl (by kernel_rfl) (by kernel_rfl) (by kernel_rfl) (fun _ _ _ h => h) (Or.inl ⟨by rfl, ?_⟩) hHeld ?_
        rotate_left
        · (intro w hSw; (try dsimp only at hSw); go_simp; try (with_reducible rfl))
        try simp only [Act.put, List.setIfInBounds_toArray, List.set_cons_zero, List.set_cons_succ]
        refine wpAnyH_done (by kernel_rfl) ?_ _
        have hBv := Hb.out.trans (hHeld.mono Hb.out.size)
        have Hva2 := hide (Hva.out.bel hHeld)
        have HBv := hide hBv
        clear hov hoq hbc hHeld hBv
        obtain ⟨b35, w35, e35, ew35, hr35, hb35⟩ := mk_row (cells := icell) V29 #[.int .i64 k] 3 [(k : Int)] rfl
        have Hva4 := hide (Hva2.out.bel hb35); have Hr35 := hide hr35
        have hlen : ((falN g s l t k).map Int.ofNat).length + 1 ≤ 1000000 := by have := falN_len (g := g) (s := s) (l := l) (t := t) k; rw [List.length_map]; omega
        have hbs : w2.heap.size ≤ w35.heap.size := Nat.le_trans HBv.out.size hb35.size
        clear hr35
        go_wp2_with (at_builtin; go_loud (rw [ew35.out, e35.out]); go_loud (refine wpList_app (v := va) (xs := (falN g s l t k).map Int.ofNat) (ys := [(k : Int)]) (n := 1) el_int rfl (.tmp 33) (.tmp 35) rfl rfl Hva4.out rfl rfl Hr35.out hlen hbs ?_); go_loud (intro vv wv hown1 hg1 hat1))
        have hB35 := HBv.out.trans (hb35.mono HBv.out.size)
        exact ⟨⟨k + 1, vv, rfl, by go_num, by omega, by rw [Hs2.out, List.map_append]; exact hown1, hB35.trans ((Kept.grown hg1).below (fun b hb e => by have := hva0 b e.symm; omega) hB35.size)⟩, by simp [intOf]; omega⟩
    · obtain rfl : n = k := by omega
      have HFit := hide (rfit_any A A1 g s l n c n1 c1 wr Hn.out hn20 ((Hx.out.below hb).more hb.size) Hn1.out hn1 ((Hx1.out.below hb).more hb.size) Hfine.out Hs.out Hga.out Hgf.out)
      obtain ⟨q0, q1, _, _⟩ := (hx5.bel hb).w2
      have Hva := hide hva; have Hb := hide hb
      clear hva hb
      go_wp2_with fail
      refine HFit.out.mono ?_
      rintro e w9 ⟨v, rfl, hov, hb9⟩
      have hva9 := Hva.out.bel hb9
      have hlm : ((falN g s l t n).map Int.ofNat).length = (falN g s l t n).length := List.length_map ..
      obtain ⟨Al, cl, hve, hrl⟩ := hva9.rdn _ hlm
      subst hve
      have Hva9 := hide hva9
      clear hov q0 q1 hva9 hrl hlm
      go_wp2_with fail
      go_ret2
      exact ⟨Al, cl, rfl, Hva9.out.mono hB2.size, hB2.trans ((Hb.out.trans (hb9.mono Hb.out.size)).mono hB2.size)⟩
set_option maxHeartbeats 4000000 in
set_option maxRecDepth 100000 in
theorem rFalls_any (A A1 : Option Addr) (g : List Rc) (s : Sp) (l : List Ga) (t : Sp) (n c n1 c1 : Nat) (w : World) (hn : n = g.length) (hm : n ≤ 9223372036854775807) (hx : Rd w w.heap.size Rc.cells A g)
    (hnl : n1 = l.length) (hm1 : n1 ≤ 9223372036854775807) (hx1 : Rd w w.heap.size Ga.cells A1 l) :
    Calls Try.prog 28 #[.slice A n c, .agg #[.int .i64 s.lo, .int .i64 s.hi], .slice A1 n1 c1, .agg #[.int .i64 t.lo, .int .i64 t.hi]] w (FallsPost g s l t w) := by
  obtain ⟨b5, w1, e5, ew1, hx5, hb1, hz1⟩ := mk_bx w #[.int .i64 s.lo, .int .i64 s.hi] 24
  obtain ⟨b7, w2, e7, ew2, hx7, hb2, hz2⟩ := mk_bx w1 #[.int .i64 t.lo, .int .i64 t.hi] 24
  have e57 : b5 + 1 = b7 := by have := e7.out; omega
  have hB2 := hb1.trans (hb2.mono hb1.size)
  replace hx5 := hx5.bel hb2
  have Hn := hide hn; have Hn1 := hide hnl; have Hx : Hid (Rd w2 w2.heap.size Rc.cells A g) := hide ((hx.below hB2).more hB2.size); have Hx1 : Hid (Rd w2 w2.heap.size Ga.cells A1 l) := hide ((hx1.below hB2).more hB2.size)
  have HE := hide (rask_any A A1 g s l n c n1 c1 w2 hn hm Hx.out hnl hm1 Hx1.out)
  obtain ⟨q0, q1, _, _⟩ := hx5.w2
  clear hn hnl hx hx1 hz1 hz2
  by_cases he : gEnter g s l = 0
  · obtain ⟨hok, hg12, hl30, hfine, hs, hga, hgf⟩ := enter_parts he
    have HE0 := hide (show Calls Try.prog 71 #[.slice A n c, .agg #[.int .i64 s.lo, .int .i64 s.hi], .slice A1 n1 c1] w2 fun e w' => e = .returned (.int .i64 0) ∧ Below w2.heap.size w2 w' by have := HE.out; rw [he] at this; exact this)
    have He := hide he
    have hn12 : n ≤ 12 := by rw [Hn.out]; exact hg12
    have hn30 : n1 ≤ 30 := by rw [Hn1.out]; exact hl30
    clear he HE hok
    go_enter Try.func28, Try.ntmps28
    go_wp2_with fail
    rw [ew1.out, e5.out, e57, ew2.out]
    refine HE0.out.mono ?_
    rintro e w3 ⟨rfl, hb3⟩
    obtain ⟨p0, p1, _, _⟩ := (hx7.bel hb3).w2
    clear q0 q1
    go_wp2_with fail
    refine (spanned_any _ _ _ _ _).mono ?_
    rintro e w5 ⟨rfl, hb5⟩
    have hB5 := hb3.trans (hb5.mono hb3.size)
    obtain ⟨p0, p1, _, _⟩ := (hx7.bel hB5).w2
    obtain ⟨q0, q1, _, _⟩ := (hx5.bel hB5).w2
    cases ht : Sp.ok 0 1000000 t
    · have E1 := hide (show falE g s l t = 2 by unfold falE; rw [if_pos He.out, if_neg (by rw [ht]; decide)])
      have Ew := hide (show falW g s l t = false by unfold falW; rw [E1.out]; rfl)
      have El := hide (show falL g s l t = [] by unfold falL; rw [E1.out]; rfl)
      clear ht
      go_wp2_with fail
      refine bodyPost_ret (v := .tuple #[.slice none 0 0, .bool false, .int .i64 2]) (by simp [results, Try.results28, go_sem]; try rfl) rfl ?_
      exact ⟨.slice none 0 0, by rw [E1.out, Ew.out], by rw [El.out]; exact Own.nil _ _ _ _ _, hB2.trans (hB5.mono hB2.size)⟩
    · have Ht := hide (okS_fine ht)
      have E0 : falE g s l t = if falN g s l t g.length = [] then 6 else 0 := by unfold falE; rw [if_pos He.out, if_pos ht]
      have E1 := hide E0
      clear ht E0
      go_wp2_with fail
      refine (rfalls0_any A A1 g s l t n c n1 c1 w5 Hn.out (by omega) ((Hx.out.below hB5).more hB5.size) Hn1.out (by omega) ((Hx1.out.below hB5).more hB5.size) hfine hs Ht.out (by rw [Hn.out]; exact hga) hgf).mono ?_
      rintro e w6 ⟨Al, cl, rfl, hol, hb6⟩
      have hB6 := hB5.trans (hb6.mono hB5.size)
      have Hol := hide hol
      clear hol
      by_cases hz : falN g s l t n = []
      · have E2 := hide (E1.out.trans (if_pos (by rw [← Hn.out]; exact hz)))
        have Ew := hide (show falW g s l t = false by unfold falW; rw [E2.out]; rfl)
        have El := hide (show falL g s l t = [] by unfold falL; rw [E2.out]; rfl)
        have hl : (falN g s l t n).length = 0 := by rw [hz]; rfl
        clear hz
        go_wp2_with fail
        refine bodyPost_ret (v := .tuple #[.slice none 0 0, .bool false, .int .i64 6]) (by simp [results, Try.results28, go_sem]; try rfl) rfl ?_
        exact ⟨.slice none 0 0, by rw [E2.out, Ew.out], by rw [El.out]; exact Own.nil _ _ _ _ _, hB2.trans (hB6.mono hB2.size)⟩
      · have E2 := hide (E1.out.trans (if_neg (by rw [← Hn.out]; exact hz)))
        have Ew := hide (show falW g s l t = (fitS g l s).isSome by unfold falW; rw [E2.out]; rfl)
        have El := hide (show falL g s l t = (falN g s l t n).map Int.ofNat by unfold falL; rw [E2.out, Hn.out]; rfl)
        have hl : ¬ (falN g s l t n).length = 0 := fun h => hz (List.length_eq_zero_iff.1 h)
        obtain ⟨z, hz2⟩ : ∃ z, z = (falN g s l t n).length := ⟨_, rfl⟩
        have Hz2 := hide hz2
        rw [← hz2] at hl Hol ⊢
        have hl2 : ¬ (z : Int) = 0 := by omega
        clear hz hz2
        go_wp2_with fail
        refine bodyPost_ret (v := .tuple #[.slice Al z cl, .bool (fitS g l s).isSome, .int .i64 0]) (by simp [results, Try.results28, go_sem]; try rfl) rfl ?_
        exact ⟨.slice Al z cl, by rw [E2.out, Ew.out], by rw [El.out]; exact Hol.out.mono (Nat.le_trans hB2.size hB5.size), hB2.trans (hB6.mono hB2.size)⟩
  · have E1 := hide (show falE g s l t = gEnter g s l by unfold falE; rw [if_neg he])
    have He := hide he
    have hne : (gEnter g s l == 0) = false := by simpa using he
    have hne2 : (gEnter g s l != 0) = true := by simpa using he
    have Ew := hide (show falW g s l t = false by unfold falW; rw [if_neg (by rw [E1.out]; exact he)])
    have El := hide (show falL g s l t = [] by unfold falL; rw [if_neg (by rw [E1.out]; exact he)])
    clear he
    go_enter Try.func28, Try.ntmps28
    go_wp2_with fail
    rw [ew1.out, e5.out, e57, ew2.out]
    refine HE.out.mono ?_
    rintro e w3 ⟨rfl, hb3⟩
    go_wp2_with fail
    refine bodyPost_ret (v := .tuple #[.slice none 0 0, .bool false, .int .i64 (gEnter g s l)]) (by simp [results, Try.results28, go_sem]; try rfl) rfl ?_
    exact ⟨.slice none 0 0, by rw [E1.out, Ew.out], by rw [El.out]; exact Own.nil _ _ _ _ _, hB2.trans (hb3.mono hB2.size)⟩
end Go.Proofs.Ytkmocikcohhdoaa
