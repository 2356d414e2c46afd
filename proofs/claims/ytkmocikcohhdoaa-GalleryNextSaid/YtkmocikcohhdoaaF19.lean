/- Gallery: the reference's fit, by contract. -/
import Derived.Test.YtkmocikcohhdoaaF18
import Derived.BigRegion
set_option linter.unusedVariables false
set_option linter.unusedSimpArgs false
namespace Go.Proofs.Ytkmocikcohhdoaa
open Go.RowKit Go.Shelf
attribute [local go_sem] ite_min ite_max
theorem ite_max0 (a b : Int) : (if b < a then a - b else 0) = max 0 (a - b) := by rw [Int.max_def]; split <;> split <;> omega
attribute [local go_sem] ite_max0
def RFitPost (g : List Rc) (l : List Ga) (s : Sp) (w : World) (e : Ending) (w' : World) : Prop :=
  ∃ v, e = .returned (.tuple #[v, .bool (fitS g l s).isSome]) ∧ Own w' w.heap.size 24 2 Sp.cells v ((fitS g l s).getD []) ∧ Below w.heap.size w w'
theorem Own.blk {α : Type} {cells : α → List Value} {w : World} {base : Nat} {e : TypeId} {k : Nat} {v : Value} {xs : List α} (h : Own w base e k cells v xs) (hpos : 0 < xs.length) : ∃ g c, v = .slice (some ⟨g, 0, none⟩) xs.length c ∧ base ≤ g ∧ g < w.heap.size := by
  obtain ⟨_, h | ⟨q, cap, cur, hv, hq, hq2, _⟩⟩ := h
  · have := h.2; omega
  · exact ⟨q, cap, hv, hq, (Array.getElem?_eq_some_iff.1 hq2).1⟩
section
variable {W : World} {base : Nat} {e : TypeId} {g n c i : Nat} {D : List Sp} {x : Sp}
theorem own_lo (h : Own W base e 2 Sp.cells (.slice (some ⟨g, 0, none⟩) n c) D) (hx : D[i]? = some x) (hn : n = D.length) (v : Int) : Own (W.setCell ⟨g, i * 2, none⟩ (.int .i64 v)) base e 2 Sp.cells (.slice (some ⟨g, 0, none⟩) n c) (D.set i ⟨v, x.hi⟩) ∧ Kept (fun b => b ≠ g) W (W.setCell ⟨g, i * 2, none⟩ (.int .i64 v)) := by
  obtain ⟨o1, _, _⟩ := h.put_ Sp.len (i := i) (j := 0) (x' := ⟨v, x.hi⟩) (u := .int .i64 v) hx (by omega) rfl hn
  exact ⟨o1, Kept.setCell W ⟨g, i * 2, none⟩ _⟩
theorem own_hi (h : Own W base e 2 Sp.cells (.slice (some ⟨g, 0, none⟩) n c) D) (hx : D[i]? = some x) (hn : n = D.length) (v : Int) : Own (W.setCell ⟨g, i * 2 + 1, none⟩ (.int .i64 v)) base e 2 Sp.cells (.slice (some ⟨g, 0, none⟩) n c) (D.set i ⟨x.lo, v⟩) ∧ Kept (fun b => b ≠ g) W (W.setCell ⟨g, i * 2 + 1, none⟩ (.int .i64 v)) := by
  obtain ⟨o1, _, _⟩ := h.put_ Sp.len (i := i) (j := 1) (x' := ⟨x.lo, v⟩) (u := .int .i64 v) hx (by omega) rfl hn
  exact ⟨o1, Kept.setCell W ⟨g, i * 2 + 1, none⟩ _⟩
end
theorem kept_of_below {W W' : World} {B : Nat} {R : Nat → Prop} (h : Below B W W') (hB : W.heap.size ≤ B) : Kept R W W' := ⟨h.os, h.tape, h.output, h.size, fun b _ hl => h.block b (by omega)⟩
set_option maxHeartbeats 4000000 in
set_option maxRecDepth 100000 in
theorem rfit_any (A A' : Option Addr) (g : List Rc) (s : Sp) (l : List Ga) (n c n' c' : Nat) (w : World) (hn : n = g.length) (hn2 : n ≤ 20) (hx : Rd w w.heap.size Rc.cells A g)
    (hn' : n' = l.length) (hn2' : n' ≤ 100) (hx' : Rd w w.heap.size Ga.cells A' l) (hfine : ∀ r ∈ g, r.fine) (hs : s.fine 1000000) (hga : gaIn n l) (hgf : ∀ x ∈ l, x.flow.fine 13000000) :
    Calls Try.prog 72 #[.slice A n c, .agg #[.int .i64 s.lo, .int .i64 s.hi], .slice A' n' c'] w (RFitPost g l s w) := by
  obtain ⟨b4, w1, eb4, ew1, hx4, hb1, hz1⟩ := mk_bx w #[.int .i64 s.lo, .int .i64 s.hi] 24
  have Hn := hide hn; have Hn' := hide hn'; have Hx : Hid (Rd w1 w1.heap.size Rc.cells A g) := hide ((hx.below hb1).more hb1.size); have Hx' : Hid (Rd w1 w1.heap.size Ga.cells A' l) := hide ((hx'.below hb1).more hb1.size); have Hga := hide hga
  have hsz01 : w.heap.size ≤ w1.heap.size := hb1.size
  have Hfine := hide hfine
  have Hbd := hide (dnK_bd hfine (rdS_bd n l hgf) hs)
  clear hn hn' hx hx' hga hfine hgf hs hz1
  go_enter Try.func72, Try.ntmps72
  go_wp2_with fail
  rw [ew1.out, eb4.out]
  go_loopw [8, 9] (fun a i wr => ∃ (k : Nat) (va : Value), va = a ∧ i = .int .i64 k ∧ k ≤ n + 1 ∧ Own wr w1.heap.size 24 2 Sp.cells va (List.replicate k allS) ∧ Below w1.heap.size w1 wr) (fun _ i _ => n + 1 - (intOf i).toNat)
  case atStart => exact ⟨0, _, rfl, rfl, by omega, Own.nil _ _ _ _ _, Below.refl _ _⟩
  case round =>
    obtain ⟨k, va, rfl, rfl, hk, hva, hb⟩ := hrel
    by_cases hlt : k ≤ n
    · obtain ⟨b7, w7, e7, ew7, hr7, hb7⟩ := mk_row (cells := Sp.cells) wr #[.int .i64 0, .int .i64 13000000] 24 [allS] rfl
      have Hva := hide (hva.bel hb7); have Hr7 := hide hr7; have Hb := hide hb
      have hbs := hb.size
      have hva0 := fun q hq => (hva.blockG (g := q) hq).1
      clear hva hr7 hb
      go_wp2_with (at_builtin; go_loud (rw [ew7.out, e7.out]; refine wpList_app (v := va) (xs := List.replicate k allS) (ys := [allS]) (n := 1) el_sp rfl (.tmp 22) (.tmp 24) rfl rfl Hva.out rfl rfl Hr7.out (by simp; omega) (Nat.le_trans hbs hb7.size) ?_; intro vv wv hown1 hg1 hat1))
      have hB7 := Hb.out.trans (hb7.mono Hb.out.size)
      refine ⟨⟨k + 1, vv, rfl, by go_num, by omega, by rw [List.replicate_succ']; exact hown1, hB7.trans ((Kept.grown hg1).below (fun b hb e => by have := hva0 b e.symm; omega) hB7.size)⟩, by simp [intOf]; omega⟩
    · obtain rfl : k = n + 1 := by omega
      obtain ⟨gr, cr, hve, hgr1, hgr2⟩ := hva.blk (by simp)
      rw [List.length_replicate] at hve
      subst hve
      obtain ⟨w2, rfl⟩ : ∃ w2, w2 = wr := ⟨wr, rfl⟩
      have Hx2 := hide ((Hx.out.below hb)); have Hx2' := hide (Hx'.out.below hb)
      have hx42 := hx4.bel hb
      have hB2 := hb1.trans (hb.mono hb1.size)
      have Hva := hide hva
      have lb4 : b4 < w1.heap.size := hx4.lt
      have hsz12 := hb.size
      clear hva hx4 Hx Hx' hb
      rw [show ((n + 1 : Nat) : Int) = (n : Int) + 1 from rfl]
      go_wp2_with fail
      go_loopw [10] (fun i wr => ∃ k : Nat, i = .int .i64 k ∧ k ≤ n' ∧ Own wr w1.heap.size 24 2 Sp.cells (.slice (some ⟨gr, 0, none⟩) (n + 1) cr) (rdS n (l.take k)) ∧ Kept (fun b => b < w2.heap.size ∧ b ≠ gr) w2 wr) (fun i _ => n' - (intOf i).toNat)
      case atStart => exact ⟨0, rfl, by omega, Hva.out, Kept.refl _ _⟩
      case round =>
        obtain ⟨k, rfl, hk, hvb, hkp⟩ := hrel
        have hsz := hkp.size
        by_cases hlt : k < n'
        · obtain ⟨b, off, sh, lo, hi, rfl, hB, hxk, q0, q1, q2⟩ := (Hx2'.out.keptR hkp (fun b hb => ⟨by omega, by omega⟩) hsz12).ga (i := k) (by have := Hn'.out; omega)
          have hsh := Hga.out _ (List.mem_of_getElem? hxk)
          simp only at hsh
          obtain ⟨j, rfl⟩ : ∃ j : Nat, sh = j := ⟨sh.toNat, by omega⟩
          have hj2 : (j : Int) < (n : Int) + 1 := by omega
          have hxj : (rdS n (l.take k))[j]? = some ((rdS n (l.take k)).getD j allS) := by rw [List.getD_eq_getElem?_getD, List.getElem?_eq_getElem (by rw [rdS_len]; omega)]; rfl
          obtain ⟨r0, hr0⟩ : ∃ r0, r0 = (rdS n (l.take k)).getD j allS := ⟨_, rfl⟩
          rw [← hr0] at hxj
          have et : rdS n (l.take (k + 1)) = (rdS n (l.take k)).set j (cutS r0 ⟨lo, hi⟩) := by
            rw [take_snoc hxk, rdS_snoc, hr0]; rfl
          have Het := hide et; have Hk2 := hide hkp
          obtain ⟨D, hD⟩ : ∃ D, D = rdS n (l.take k) := ⟨_, rfl⟩
          have hDl : n + 1 = D.length := by rw [hD, rdS_len]
          rw [← hD] at hxj Het hvb
          have HDl := hide hDl
          have Hxk := hide hxj
          have hnb : b ≠ gr := by omega
          have hbw : b < wr.heap.size := by omega
          clear hxj et hkp hD hr0 hsh hxk hDl
          go_wp2_with fail
          refine wp_region_held_drew (S := (fun W => Kept (fun b => b ≠ gr) wr W)) (by kernel_rfl) (by (try dsimp only); exact Kept.all _ (Below.refl _ _).drew) (fun hHeld => ?_)
          have hdr : Below wr.heap.size wr (World.drew wr) := (Below.refl _ _).drew
          generalize World.drew wr = Wd9 at hHeld hdr ⊢
          have hvb := hvb.bel hdr
          have hbc := Below.refl Wd9.heap.size Wd9
          refine wpAnyH_take (i := 0) (oi := ⟨_, _, _, _, _, _⟩) (v := ?_) rfl (by kernel_rfl) (by kernel_rfl) (by kernel_rfl) (fun _ _ _ h => h) (Or.inl ⟨by rfl, ?_⟩) hHeld ?_
          rotate_left
          · (intro w hSw; (try dsimp only at hSw); go_simp; try (with_reducible rfl))
          try simp only [Act.put, List.setIfInBounds_toArray, List.set_cons_zero, List.set_cons_succ]
          refine wpAnyH_take (i := 1) (oi := ⟨_, _, _, _, _, _⟩) (v := ?_) rfl (by kernel_rfl) (by kernel_rfl) (by kernel_rfl) (fun _ _ _ h => h) (Or.inl ⟨by rfl, ?_⟩) hHeld ?_
          rotate_left
          · (intro w hSw; (try dsimp only at hSw); go_simp; try (with_reducible rfl))
          try simp only [Act.put, List.setIfInBounds_toArray, List.set_cons_zero, List.set_cons_succ]
          refine wpAnyH_take (i := 2) (oi := ⟨_, _, _, _, _, _⟩) (v := ?_) rfl (by kernel_rfl) (by kernel_rfl) (by kernel_rfl) (fun _ _ _ h => h) (Or.inl ⟨by rfl, ?_⟩) hHeld ?_
          rotate_left
          · (intro w hSw; (try dsimp only at hSw); go_simp; try (with_reducible rfl))
          try simp only [Act.put, List.setIfInBounds_toArray, List.set_cons_zero, List.set_cons_succ]
          refine wpAnyH_take (i := 3) (oi := ⟨_, _, _, _, _, _⟩) (v := ?_) rfl (by kernel_rfl) (by kernel_rfl) (by kernel_rfl) (fun _ _ _ h => h) (Or.inl ⟨by rfl, ?_⟩) hHeld ?_
          rotate_left
          · (intro w hSw; (try dsimp only at hSw); go_simp; try (with_reducible rfl))
          try simp only [Act.put, List.setIfInBounds_toArray, List.set_cons_zero, List.set_cons_succ]
          refine wpAnyH_take (i := 4) (oi := ⟨_, _, _, _, _, _⟩) (v := ?_) rfl (by kernel_rfl) (by kernel_rfl) (by kernel_rfl) (fun _ _ _ h => h) (Or.inl ⟨by rfl, ?_⟩) hHeld ?_
          rotate_left
          · (intro w hSw; (try dsimp only at hSw); go_simp; try (with_reducible rfl))
          try simp only [Act.put, List.setIfInBounds_toArray, List.set_cons_zero, List.set_cons_succ]
          refine wpAnyH_take (i := 5) (oi := ⟨_, _, _, _, _, _⟩) (v := ?_) rfl (by kernel_rfl) (by kernel_rfl) (by kernel_rfl) (fun _ _ _ h => h) (Or.inl ⟨by rfl, ?_⟩) hHeld ?_
          rotate_left
          · (intro w hSw; (try dsimp only at hSw); have c0 := (hSw.cell (p := ⟨b, off + k * 3, none⟩) hnb hbw).trans q0; have c1 := (hSw.cell (p := ⟨b, off + k * 3 + 1, none⟩) hnb hbw).trans q1; have c2 := (hSw.cell (p := ⟨b, off + k * 3 + 1 + 1, none⟩) hnb hbw).trans q2; go_simp; try (with_reducible rfl))
          try simp only [Act.put, List.setIfInBounds_toArray, List.set_cons_zero, List.set_cons_succ]
          refine wpAnyH_take (i := 6) (oi := ⟨_, _, _, _, _, _⟩) (v := ?_) rfl (by kernel_rfl) (by kernel_rfl) (by kernel_rfl) (fun _ _ _ h => h) (Or.inl ⟨by rfl, ?_⟩) hHeld ?_
          rotate_left
          · (intro w hSw; (try dsimp only at hSw); go_simp; try (with_reducible rfl))
          try simp only [Act.put, List.setIfInBounds_toArray, List.set_cons_zero, List.set_cons_succ]
          refine wpAnyH_take (i := 7) (oi := ⟨_, _, _, _, _, _⟩) (v := ?_) rfl (by kernel_rfl) (by kernel_rfl) (by kernel_rfl) (fun _ _ _ h => h) (Or.inl ⟨by rfl, ?_⟩) hHeld ?_
          rotate_left
          · (intro w hSw; (try dsimp only at hSw); go_simp; try (with_reducible rfl))
          try simp only [Act.put, List.setIfInBounds_toArray, List.set_cons_zero, List.set_cons_succ]
          refine wpAnyH_take (i := 8) (oi := ⟨_, _, _, _, _, _⟩) (v := ?_) rfl (by kernel_rfl) (by kernel_rfl) (by kernel_rfl) (fun _ _ _ h => h) (Or.inl ⟨by rfl, ?_⟩) hHeld ?_
          rotate_left
          · (intro w hSw; (try dsimp only at hSw); go_simp; try (with_reducible rfl))
          try simp only [Act.put, List.setIfInBounds_toArray, List.set_cons_zero, List.set_cons_succ]
          refine wpAnyH_take (i := 9) (oi := ⟨_, _, _, _, _, _⟩) (v := ?_) rfl (by kernel_rfl) (by kernel_rfl) (by kernel_rfl) (fun _ _ _ h => h) (Or.inl ⟨by rfl, ?_⟩) hHeld ?_
          rotate_left
          · (intro w hSw; (try dsimp only at hSw); go_simp; try (with_reducible rfl))
          try simp only [Act.put, List.setIfInBounds_toArray, List.set_cons_zero, List.set_cons_succ]
          refine wpAnyH_take (i := 10) (oi := ⟨_, _, _, _, _, _⟩) (v := ?_) rfl (by kernel_rfl) (by kernel_rfl) (by kernel_rfl) (fun _ _ _ h => h) (Or.inl ⟨by rfl, ?_⟩) hHeld ?_
          rotate_left
          · (intro w hSw; (try dsimp only at hSw); go_simp; try (with_reducible rfl))
          try simp only [Act.put, List.setIfInBounds_toArray, List.set_cons_zero, List.set_cons_succ]
          refine wpAnyH_take (i := 11) (oi := ⟨_, _, _, _, _, _⟩) (v := ?_) rfl (by kernel_rfl) (by kernel_rfl) (by kernel_rfl) (fun _ _ _ h => h) (Or.inl ⟨by rfl, ?_⟩) hHeld ?_
          rotate_left
          · (intro w hSw; (try dsimp only at hSw); have c0 := (hSw.cell (p := ⟨b, off + k * 3, none⟩) hnb hbw).trans q0; have c1 := (hSw.cell (p := ⟨b, off + k * 3 + 1, none⟩) hnb hbw).trans q1; have c2 := (hSw.cell (p := ⟨b, off + k * 3 + 1 + 1, none⟩) hnb hbw).trans q2; go_simp; try (with_reducible rfl))
          try simp only [Act.put, List.setIfInBounds_toArray, List.set_cons_zero, List.set_cons_succ]
          refine wpAnyH_take (i := 12) (oi := ⟨_, _, _, _, _, _⟩) (v := ?_) rfl (by kernel_rfl) (by kernel_rfl) (by kernel_rfl) (fun _ _ _ h => h) (Or.inl ⟨by rfl, ?_⟩) hHeld ?_
          rotate_left
          · (intro w hSw; (try dsimp only at hSw); go_simp; try (with_reducible rfl))
          try simp only [Act.put, List.setIfInBounds_toArray, List.set_cons_zero, List.set_cons_succ]
          refine wpAnyH_take (i := 14) (oi := ⟨_, _, _, _, _, _⟩) (v := ?_) rfl (by kernel_rfl) (by kernel_rfl) (by kernel_rfl) (fun _ _ _ h => h) (Or.inl ⟨by rfl, ?_⟩) hHeld ?_
          rotate_left
          · (intro w hSw; (try dsimp only at hSw); go_simp; try (with_reducible rfl))
          try simp only [Act.put, List.setIfInBounds_toArray, List.set_cons_zero, List.set_cons_succ]
          refine wpAnyH_take (i := 15) (oi := ⟨_, _, _, _, _, _⟩) (v := ?_) rfl (by kernel_rfl) (by kernel_rfl) (by kernel_rfl) (fun _ _ _ h => h) (Or.inl ⟨by rfl, ?_⟩) hHeld ?_
          rotate_left
          · (intro w hSw; (try dsimp only at hSw); go_simp; try (with_reducible rfl))
          try simp only [Act.put, List.setIfInBounds_toArray, List.set_cons_zero, List.set_cons_succ]
          refine wpAnyH_take (i := 16) (oi := ⟨_, _, _, _, _, _⟩) (v := ?_) rfl (by kernel_rfl) (by kernel_rfl) (by kernel_rfl) (fun _ _ _ h => h) (Or.inl ⟨by rfl, ?_⟩) hHeld ?_
          rotate_left
          · (intro w hSw; (try dsimp only at hSw); go_simp; try (with_reducible rfl))
          try simp only [Act.put, List.setIfInBounds_toArray, List.set_cons_zero, List.set_cons_succ]
          refine wpAnyH_take (i := 17) (oi := ⟨_, _, _, _, _, _⟩) (v := ?_) rfl (by kernel_rfl) (by kernel_rfl) (by kernel_rfl) (fun _ _ _ h => h) (Or.inl ⟨by rfl, ?_⟩) hHeld ?_
          rotate_left
          · (intro w hSw; (try dsimp only at hSw); go_simp; try (with_reducible rfl))
          try simp only [Act.put, List.setIfInBounds_toArray, List.set_cons_zero, List.set_cons_succ]
          refine wpAnyH_take (i := 18) (oi := ⟨_, _, _, _, _, _⟩) (v := ?_) rfl (by kernel_rfl) (by kernel_rfl) (by kernel_rfl) (fun _ _ _ h => h) (Or.inl ⟨by rfl, ?_⟩) hHeld ?_
          rotate_left
          · (intro w hSw; (try dsimp only at hSw); have c0 := (hSw.cell (p := ⟨b, off + k * 3, none⟩) hnb hbw).trans q0; have c1 := (hSw.cell (p := ⟨b, off + k * 3 + 1, none⟩) hnb hbw).trans q1; have c2 := (hSw.cell (p := ⟨b, off + k * 3 + 1 + 1, none⟩) hnb hbw).trans q2; go_simp; try (with_reducible rfl))
          try simp only [Act.put, List.setIfInBounds_toArray, List.set_cons_zero, List.set_cons_succ]
          refine wpAnyH_ready (rs := [13]) (by kernel_rfl) (by simp) ?_
          refine AllReadyH.cons (o := ⟨_, _, _, _, _, _⟩) rfl (fun K hK => ?_) AllReadyH.nil
          obtain ⟨z0, z1, _, _⟩ := own_sp hvb Hxk.out HDl.out
          go_simp
          clear z0 z1
          have hHeldN := hHeld
          refine hK.out _ _ ?_ (fun hHeld2 => ?_)
          · exact hHeldN
          clear hK K hHeld hHeldN; have hHeld := hHeld2; clear hHeld2
          try simp only [Act.put, List.setIfInBounds_toArray, List.set_cons_zero, List.set_cons_succ]
          refine wpAnyH_ready (rs := [19]) (by kernel_rfl) (by simp) ?_
          refine AllReadyH.cons (o := ⟨_, _, _, _, _, _⟩) rfl (fun K hK => ?_) AllReadyH.nil
          go_simp
          refine (rcut_any _ _ _ _ _).mono ?_
          rintro e V51 ⟨rfl, hb⟩
          go_wp2_with fail
          have hHeldN := hHeld.trans (Kept.all _ hb)
          have hvb := hvb.bel hb
          have hbc := hbc.trans (hb.mono hbc.size)
          refine hK.out _ _ ?_ (fun hHeld2 => ?_)
          · exact hHeldN
          clear hK K hHeld hHeldN hb; have hHeld := hHeld2; clear hHeld2
          try simp only [Act.put, List.setIfInBounds_toArray, List.set_cons_zero, List.set_cons_succ]
          refine wpAnyH_take (i := 20) (oi := ⟨_, _, _, _, _, _⟩) (v := ?_) rfl (by kernel_rfl) (by kernel_rfl) (by kernel_rfl) (fun _ _ _ h => h) (Or.inl ⟨by rfl, ?_⟩) hHeld ?_
          rotate_left
          · (intro w hSw; (try dsimp only at hSw); go_simp; try (with_reducible rfl))
          try simp only [Act.put, List.setIfInBounds_toArray, List.set_cons_zero, List.set_cons_succ]
          refine wpAnyH_ready (rs := [21]) (by kernel_rfl) (by simp) ?_
          refine AllReadyH.cons (o := ⟨_, _, _, _, _, _⟩) rfl (fun K hK => ?_) AllReadyH.nil
          obtain ⟨z0, z1, y0, y1⟩ := own_sp hvb Hxk.out HDl.out
          obtain ⟨hset, hkp⟩ := own_sp_set hvb Hxk.out (cutS r0 ⟨lo, hi⟩) HDl.out
          have Hset := hide hset; have Hkp := hide (hHeld.trans hkp)
          clear hset hkp
          go_simp
          refine hK.out _ _ ?_ (fun _ => ?_)
          · (try dsimp only); exact Hkp.out
          clear hK K hHeld
          try simp only [Act.put, List.setIfInBounds_toArray, List.set_cons_zero, List.set_cons_succ]
          refine wpAnyH_done (by kernel_rfl) ?_ _
          go_wp2_with fail
          exact ⟨⟨k + 1, by go_num, by omega, by rw [Het.out]; exact Hset.out, Hk2.out.trans (Hkp.out.mono fun b _ hb => hb.2)⟩, by simp [intOf]; omega⟩
        · have el : l.take k = l := List.take_of_length_le (by rw [← Hn'.out]; omega)
          rw [el] at hvb
          obtain ⟨w3, rfl⟩ : ∃ w3, w3 = wr := ⟨wr, rfl⟩
          have hx43 := hx42.kept hkp (show b4 < w2.heap.size ∧ b4 ≠ gr from ⟨by omega, by omega⟩)
          have Hx3 : Hid (Rd w3 w1.heap.size Rc.cells A g) := hide (Hx2.out.keptR hkp (fun b hb => ⟨by omega, by omega⟩) hsz12)
          have hB3 := hB2.trans (hkp.below (fun b hb => ⟨by omega, by omega⟩) hB2.size)
          obtain ⟨r0, hr0⟩ : ∃ r0, (rdS n l)[0]? = some r0 := ⟨_, List.getElem?_eq_getElem (by rw [rdS_len]; omega)⟩
          obtain ⟨d0, d1, _, _⟩ := own_sp hvb hr0 (by rw [rdS_len])
          simp only [Nat.zero_mul, Nat.zero_add] at d0 d1
          have ed0 : dnK g (rdS n l) s 0 = cutS s r0 := by unfold dnK inK; rw [List.getD_eq_getElem?_getD, hr0]; rfl
          have Hed0 := hide ed0
          have Hvb := hide hvb
          have hgr3 : gr < w3.heap.size := by omega
          have hN1 : (0 : Int) < (n : Int) + 1 := by omega
          have hsz13 : w1.heap.size ≤ w3.heap.size := by omega
          clear hvb hkp el hr0 ed0 hx42 Hva
          go_wp2_with fail
          refine wp_region_held_drew (S := (fun W => Below w3.heap.size w3 W)) (by kernel_rfl) (by (try dsimp only); exact (Below.refl _ _).drew) (fun hHeld => ?_)
          generalize World.drew w3 = Wd10 at hHeld ⊢
          have hbc := Below.refl Wd10.heap.size Wd10
          refine wpAnyH_take (i := 0) (oi := ⟨_, _, _, _, _, _⟩) (v := ?_) rfl (by kernel_rfl) (by kernel_rfl) (by kernel_rfl) (fun _ _ _ h => h) (Or.inl ⟨by rfl, ?_⟩) hHeld ?_
          rotate_left
          · (intro w hSw; (try dsimp only at hSw); obtain ⟨c0, c1, _, _⟩ := (hx43.below hSw).w2; have d0 := (hSw.cell (p := ⟨gr, 0, none⟩) hgr3).trans d0; have d1 := (hSw.cell (p := ⟨gr, 1, none⟩) hgr3).trans d1; go_simp; try (with_reducible rfl))
          try simp only [Act.put, List.setIfInBounds_toArray, List.set_cons_zero, List.set_cons_succ]
          refine wpAnyH_take (i := 1) (oi := ⟨_, _, _, _, _, _⟩) (v := ?_) rfl (by kernel_rfl) (by kernel_rfl) (by kernel_rfl) (fun _ _ _ h => h) (Or.inl ⟨by rfl, ?_⟩) hHeld ?_
          rotate_left
          · (intro w hSw; (try dsimp only at hSw); go_simp; try (with_reducible rfl))
          try simp only [Act.put, List.setIfInBounds_toArray, List.set_cons_zero, List.set_cons_succ]
          refine wpAnyH_take (i := 2) (oi := ⟨_, _, _, _, _, _⟩) (v := ?_) rfl (by kernel_rfl) (by kernel_rfl) (by kernel_rfl) (fun _ _ _ h => h) (Or.inl ⟨by rfl, ?_⟩) hHeld ?_
          rotate_left
          · (intro w hSw; (try dsimp only at hSw); go_simp; try (with_reducible rfl))
          try simp only [Act.put, List.setIfInBounds_toArray, List.set_cons_zero, List.set_cons_succ]
          refine wpAnyH_take (i := 3) (oi := ⟨_, _, _, _, _, _⟩) (v := ?_) rfl (by kernel_rfl) (by kernel_rfl) (by kernel_rfl) (fun _ _ _ h => h) (Or.inl ⟨by rfl, ?_⟩) hHeld ?_
          rotate_left
          · (intro w hSw; (try dsimp only at hSw); obtain ⟨c0, c1, _, _⟩ := (hx43.below hSw).w2; have d0 := (hSw.cell (p := ⟨gr, 0, none⟩) hgr3).trans d0; have d1 := (hSw.cell (p := ⟨gr, 1, none⟩) hgr3).trans d1; go_simp; try (with_reducible rfl))
          try simp only [Act.put, List.setIfInBounds_toArray, List.set_cons_zero, List.set_cons_succ]
          refine wpAnyH_ready (rs := [4]) (by kernel_rfl) (by simp) ?_
          refine AllReadyH.cons (o := ⟨_, _, _, _, _, _⟩) rfl (fun K hK => ?_) AllReadyH.nil
          go_simp
          refine (rcut_any _ _ _ _ _).mono ?_
          rintro e V57 ⟨rfl, hb⟩
          go_wp2_with fail
          have hHeldN := hHeld.trans (hb.mono hHeld.size)
          have hbc := hbc.trans (hb.mono hbc.size)
          refine hK.out _ _ ?_ (fun hHeld2 => ?_)
          · exact hHeldN
          clear hK K hHeld hHeldN hb; have hHeld := hHeld2; clear hHeld2
          try simp only [Act.put, List.setIfInBounds_toArray, List.set_cons_zero, List.set_cons_succ]
          refine wpAnyH_ready (rs := [5]) (by kernel_rfl) (by simp) ?_
          refine AllReadyH.cons (o := ⟨_, _, _, _, _, _⟩) rfl (fun K hK => ?_) AllReadyH.nil
          go_simp
          obtain ⟨b58, V58, eb58, ev58, r58, hb⟩ := mk_row (cells := Sp.cells) V57 #[.int .i64 (cutS s r0).lo, .int .i64 (cutS s r0).hi] 24 [cutS s r0] rfl
          have ho58 : Own V58 w3.heap.size 24 2 Sp.cells (.slice (some ⟨b58, 0, none⟩) 1 1) [cutS s r0] := by rw [← ev58.out, ← eb58.out]; exact Own.lit _ _ _ _ [cutS s r0] Sp.len rfl (by simp) _ hHeld.size
          rw [ev58.out, eb58.out]
          have hHeldN := hHeld.trans (hb.mono hHeld.size)
          have hbc := hbc.trans (hb.mono hbc.size)
          refine hK.out _ _ ?_ (fun hHeld2 => ?_)
          · exact hHeldN
          clear hK K hHeld hHeldN hb; have hHeld := hHeld2; clear hHeld2
          try simp only [Act.put, List.setIfInBounds_toArray, List.set_cons_zero, List.set_cons_succ]
          refine wpAnyH_take (i := 6) (oi := ⟨_, _, _, _, _, _⟩) (v := ?_) rfl (by kernel_rfl) (by kernel_rfl) (by kernel_rfl) (fun _ _ _ h => h) (Or.inl ⟨by rfl, ?_⟩) hHeld ?_
          rotate_left
          · (intro w hSw; (try dsimp only at hSw); go_simp; try (with_reducible rfl))
          try simp only [Act.put, List.setIfInBounds_toArray, List.set_cons_zero, List.set_cons_succ]
          refine wpAnyH_done (by kernel_rfl) ?_ _
          go_wp2_with fail
          have ho1 : Own V58 w3.heap.size 24 2 Sp.cells (.slice (some ⟨b58, 0, none⟩) 1 1) ((List.range (0 + 1)).map (dnK g (rdS n l) s)) := by rw [show (List.range (0 + 1)).map (dnK g (rdS n l) s) = [dnK g (rdS n l) s 0] from rfl, Hed0.out]; exact ho58
          have Ho1 := hide ho1
          have hB58 := hHeld
          have hrl : (rdS n l).length = n + 1 := rdS_len _ _
          have Hrl := hide hrl
          clear ho1 ho58 r58 hHeld hbc d0 d1 hrl
          go_loopw [11, 12] (fun a i wr => ∃ (k : Nat) (vf : Value), vf = a ∧ i = .int .i64 k ∧ k ≤ n ∧ Own wr w3.heap.size 24 2 Sp.cells vf ((List.range (k + 1)).map (dnK g (rdS n l) s)) ∧ Hid (∀ j, j < k → okS (dnK g (rdS n l) s j)) ∧ Below w3.heap.size w3 wr) (fun _ i _ => n - (intOf i).toNat)
          case atStart => exact ⟨0, _, rfl, rfl, by omega, Ho1.out, hide (fun j hj => by omega), hB58⟩
          case round => as_aux_lemma =>
            obtain ⟨k, vf, rfl, rfl, hk, hvf, Hok, hb⟩ := hrel
            obtain ⟨gf, cf, hve, hgf1, hgf2⟩ := hvf.blk (by simp)
            rw [List.length_map, List.length_range] at hve
            subst hve
            have hszb := hb.size
            obtain ⟨f, hfe⟩ : ∃ f, f = dnK g (rdS n l) s k := ⟨_, rfl⟩
            have hfk : ((List.range (k + 1)).map (dnK g (rdS n l) s))[k]? = some f := by rw [List.getElem?_map, List.getElem?_range (by omega), hfe]; rfl
            have hbdk := (Hbd.out k (by rw [← Hn.out]; exact hk) Hok.out).2
            rw [← hfe] at hbdk
            obtain ⟨d0, d1, _, _⟩ := own_sp hvf hfk (by simp)
            have hsnoc : (List.range (k + 1 + 1)).map (dnK g (rdS n l) s) = (List.range (k + 1)).map (dnK g (rdS n l) s) ++ [dnK g (rdS n l) s (k + 1)] := by rw [List.range_succ (n := k + 1), List.map_append]; rfl
            obtain ⟨LL, hLL⟩ : ∃ LL, LL = (List.range (k + 1)).map (dnK g (rdS n l) s) := ⟨_, rfl⟩
            have hLl : k + 1 = LL.length := by rw [hLL]; simp
            rw [← hLL] at hvf hfk hsnoc
            have Hsnoc := hide hsnoc; have Hfk := hide hfk; have HLl := hide hLl; have Hfe := hide hfe; have Hb := hide hb; have HLL := hide hLL
            have hlen1000 : LL.length + 1 ≤ 1000000 := by omega
            have ik1 : (k : Int) < (k : Int) + 1 := by omega
            clear hsnoc hfk hLl hfe hLL hb
            by_cases hlt : k < n
            · by_cases hok : okS f
              · unfold okS at hok
                have hnlt : ¬ f.hi < f.lo := by omega
                have hgfw : gf < wr.heap.size := hgf2
                go_wp2_with fail
                refine wp_region_held_drew (S := (fun W => Below wr.heap.size wr W)) (by kernel_rfl) (by (try dsimp only); exact (Below.refl _ _).drew) (fun hHeld => ?_)
                generalize World.drew wr = Wd14 at hHeld ⊢
                have hbc := Below.refl Wd14.heap.size Wd14
                refine wpAnyH_take (i := 0) (oi := ⟨_, _, _, _, _, _⟩) (v := ?_) rfl (by kernel_rfl) (by kernel_rfl) (by kernel_rfl) (fun _ _ _ h => h) (Or.inl ⟨by rfl, ?_⟩) hHeld ?_
                rotate_left
                · (intro w hSw; (try dsimp only at hSw); go_simp; try (with_reducible rfl))
                try simp only [Act.put, List.setIfInBounds_toArray, List.set_cons_zero, List.set_cons_succ]
                refine wpAnyH_take (i := 1) (oi := ⟨_, _, _, _, _, _⟩) (v := ?_) rfl (by kernel_rfl) (by kernel_rfl) (by kernel_rfl) (fun _ _ _ h => h) (Or.inl ⟨by rfl, ?_⟩) hHeld ?_
                rotate_left
                · (intro w hSw; (try dsimp only at hSw); go_simp; try (with_reducible rfl))
                try simp only [Act.put, List.setIfInBounds_toArray, List.set_cons_zero, List.set_cons_succ]
                refine wpAnyH_take (i := 2) (oi := ⟨_, _, _, _, _, _⟩) (v := ?_) rfl (by kernel_rfl) (by kernel_rfl) (by kernel_rfl) (fun _ _ _ h => h) (Or.inl ⟨by rfl, ?_⟩) hHeld ?_
                rotate_left
                · (intro w hSw; (try dsimp only at hSw); go_simp; try (with_reducible rfl))
                try simp only [Act.put, List.setIfInBounds_toArray, List.set_cons_zero, List.set_cons_succ]
                refine wpAnyH_take (i := 3) (oi := ⟨_, _, _, _, _, _⟩) (v := ?_) rfl (by kernel_rfl) (by kernel_rfl) (by kernel_rfl) (fun _ _ _ h => h) (Or.inl ⟨by rfl, ?_⟩) hHeld ?_
                rotate_left
                · (intro w hSw; (try dsimp only at hSw); go_simp; try (with_reducible rfl))
                try simp only [Act.put, List.setIfInBounds_toArray, List.set_cons_zero, List.set_cons_succ]
                refine wpAnyH_take (i := 4) (oi := ⟨_, _, _, _, _, _⟩) (v := ?_) rfl (by kernel_rfl) (by kernel_rfl) (by kernel_rfl) (fun _ _ _ h => h) (Or.inl ⟨by rfl, ?_⟩) hHeld ?_
                rotate_left
                · (intro w hSw; (try dsimp only at hSw); have d0 := (hSw.cell (p := ⟨gf, k * 2, none⟩) hgfw).trans d0; have d1 := (hSw.cell (p := ⟨gf, k * 2 + 1, none⟩) hgfw).trans d1; go_simp; try (with_reducible rfl))
                try simp only [Act.put, List.setIfInBounds_toArray, List.set_cons_zero, List.set_cons_succ]
                refine wpAnyH_take (i := 5) (oi := ⟨_, _, _, _, _, _⟩) (v := ?_) rfl (by kernel_rfl) (by kernel_rfl) (by kernel_rfl) (fun _ _ _ h => h) (Or.inl ⟨by rfl, ?_⟩) hHeld ?_
                rotate_left
                · (intro w hSw; (try dsimp only at hSw); go_simp; try (with_reducible rfl))
                try simp only [Act.put, List.setIfInBounds_toArray, List.set_cons_zero, List.set_cons_succ]
                refine wpAnyH_take (i := 6) (oi := ⟨_, _, _, _, _, _⟩) (v := ?_) rfl (by kernel_rfl) (by kernel_rfl) (by kernel_rfl) (fun _ _ _ h => h) (Or.inl ⟨by rfl, ?_⟩) hHeld ?_
                rotate_left
                · (intro w hSw; (try dsimp only at hSw); go_simp; try (with_reducible rfl))
                try simp only [Act.put, List.setIfInBounds_toArray, List.set_cons_zero, List.set_cons_succ]
                refine wpAnyH_take (i := 7) (oi := ⟨_, _, _, _, _, _⟩) (v := ?_) rfl (by kernel_rfl) (by kernel_rfl) (by kernel_rfl) (fun _ _ _ h => h) (Or.inl ⟨by rfl, ?_⟩) hHeld ?_
                rotate_left
                · (intro w hSw; (try dsimp only at hSw); go_simp; try (with_reducible rfl))
                try simp only [Act.put, List.setIfInBounds_toArray, List.set_cons_zero, List.set_cons_succ]
                refine wpAnyH_take (i := 8) (oi := ⟨_, _, _, _, _, _⟩) (v := ?_) rfl (by kernel_rfl) (by kernel_rfl) (by kernel_rfl) (fun _ _ _ h => h) (Or.inl ⟨by rfl, ?_⟩) hHeld ?_
                rotate_left
                · (intro w hSw; (try dsimp only at hSw); go_simp; try (with_reducible rfl))
                try simp only [Act.put, List.setIfInBounds_toArray, List.set_cons_zero, List.set_cons_succ]
                refine wpAnyH_take (i := 9) (oi := ⟨_, _, _, _, _, _⟩) (v := ?_) rfl (by kernel_rfl) (by kernel_rfl) (by kernel_rfl) (fun _ _ _ h => h) (Or.inl ⟨by rfl, ?_⟩) hHeld ?_
                rotate_left
                · (intro w hSw; (try dsimp only at hSw); have d0 := (hSw.cell (p := ⟨gf, k * 2, none⟩) hgfw).trans d0; have d1 := (hSw.cell (p := ⟨gf, k * 2 + 1, none⟩) hgfw).trans d1; go_simp; try (with_reducible rfl))
                try simp only [Act.put, List.setIfInBounds_toArray, List.set_cons_zero, List.set_cons_succ]
                refine wpAnyH_take (i := 10) (oi := ⟨_, _, _, _, _, _⟩) (v := ?_) rfl (by kernel_rfl) (by kernel_rfl) (by kernel_rfl) (fun _ _ _ h => h) (Or.inl ⟨by rfl, ?_⟩) hHeld ?_
                rotate_left
                · (intro w hSw; (try dsimp only at hSw); go_simp; try (with_reducible rfl))
                try simp only [Act.put, List.setIfInBounds_toArray, List.set_cons_zero, List.set_cons_succ]
                refine wpAnyH_done (by kernel_rfl) ?_ _
                have hBq := hHeld
                clear hbc d0 d1
                generalize Wd14 = wq at hHeld hBq ⊢
                go_wp2_with fail
                obtain ⟨bg, offg, a0, a1, a2, a3, a4, a5, rfl, hbg, hxk, e0, e1, e2, e3, e4, e5⟩ := ((Hx3.out.keptR (Kept.all (fun _ => True) Hb.out) (fun _ _ => trivial) hsz13).keptR (Kept.all (fun _ => True) hBq) (fun _ _ => trivial) (by omega)).rc (i := k) (by have := Hn.out; omega)
                obtain ⟨⟨g1, g2, g3⟩, ⟨g4, g5, g6⟩, ⟨g7, g8, g9⟩⟩ := Hfine.out _ (List.mem_of_getElem? hxk)
                simp only at g1 g2 g3 g4 g5 g6 g7 g8 g9
                obtain ⟨r1, hr1⟩ : ∃ r1, (rdS n l)[k + 1]? = some r1 := ⟨_, List.getElem?_eq_getElem (by rw [Hrl.out]; omega)⟩
                obtain ⟨v0, v1, _, _⟩ := own_sp ((Hvb.out.bel Hb.out).bel hBq) hr1 Hrl.out.symm
                have ed : dnK g (rdS n l) s (k + 1) = cutS ⟨leastF ⟨⟨a0, a1⟩, ⟨a2, a3⟩, ⟨a4, a5⟩⟩ f.lo, mostF ⟨⟨a0, a1⟩, ⟨a2, a3⟩, ⟨a4, a5⟩⟩ f.hi⟩ r1 := by
                  have e2 : (rdS n l).getD (k + 1) allS = r1 := by rw [List.getD_eq_getElem?_getD, hr1]; rfl
                  have e3 : g.getD k Rc.zero = ⟨⟨a0, a1⟩, ⟨a2, a3⟩, ⟨a4, a5⟩⟩ := by rw [List.getD_eq_getElem?_getD, hxk]; rfl
                  unfold dnK
                  rw [inK_succ, e3, ← Hfe.out, e2]
                  rfl
                have hvf2 := hvf.bel hBq
                have Hed := hide ed
                have lb1 : 0 ≤ f.lo ∧ f.lo ≤ 1000000000 := by omega
                have mb1 : 0 ≤ f.hi ∧ f.hi ≤ 1000000000 := by omega
                have lb2 : 0 ≤ a0 ∧ a0 ≤ 1000000000 := by omega
                have mb2 : 0 ≤ a1 ∧ a1 ≤ 1000000000 := by omega
                have mb3 : 0 ≤ a2 ∧ a2 ≤ 1000000000 := by omega
                have lb3 : 0 ≤ a3 ∧ a3 ≤ 1000000000 := by omega
                have lb4 : 0 ≤ a4 ∧ a4 ≤ 1000000000 := by omega
                have mb4 : 0 ≤ a5 ∧ a5 ≤ 1000000000 := by omega
                have ib1 : (k : Int) + 1 < (n : Int) + 1 := by omega
                have ib2 : IntKind.i64.wrap ((k : Int) + 1) = (k : Int) + 1 := wrapI (by omega)
                have ib3 : 0 ≤ (k : Int) + 1 := by omega
                have hbase : w3.heap.size ≤ wq.heap.size := by have := hBq.size; omega
                have hnbg : ¬ (Value.slice (some ⟨gf, 0, none⟩) (k + 1) cf).ownBlock = some bg := by simp [Value.ownBlock]; omega
                have hngr : ¬ (Value.slice (some ⟨gf, 0, none⟩) (k + 1) cf).ownBlock = some gr := by simp [Value.ownBlock]; omega
                have hbgw : bg < wq.heap.size := by omega
                have hgrw : gr < wq.heap.size := by omega
                have Hhb : Hid (Below w3.heap.size w3 wq) := hide (Hb.out.trans (hBq.mono hszb))
                replace hvf := hvf2
                clear hxk hr1 ed g1 g2 g3 g4 g5 g6 g7 g8 g9 hvf2
                refine wp_region_held_drew (S := (fun W => Kept (fun b => ¬ (Value.slice (some ⟨gf, 0, none⟩) (k + 1) cf).ownBlock = some b) wq W)) (by kernel_rfl) (by (try dsimp only); exact Kept.all _ (Below.refl _ _).drew) (fun hHeld => ?_)
                have hdr : Below wq.heap.size wq (World.drew wq) := (Below.refl _ _).drew
                generalize World.drew wq = Wd16 at hHeld hdr ⊢
                have hvf := hvf.bel hdr
                have hbc := Below.refl Wd16.heap.size Wd16
                refine wpAnyH_take (i := 0) (oi := ⟨_, _, _, _, _, _⟩) (v := ?_) rfl (by kernel_rfl) (by kernel_rfl) (by kernel_rfl) (fun _ _ _ h => h) (Or.inl ⟨by rfl, ?_⟩) hHeld ?_
                rotate_left
                · (intro w hSw; (try dsimp only at hSw); go_simp; try (with_reducible rfl))
                try simp only [Act.put, List.setIfInBounds_toArray, List.set_cons_zero, List.set_cons_succ]
                refine wpAnyH_take (i := 1) (oi := ⟨_, _, _, _, _, _⟩) (v := ?_) rfl (by kernel_rfl) (by kernel_rfl) (by kernel_rfl) (fun _ _ _ h => h) (Or.inl ⟨by rfl, ?_⟩) hHeld ?_
                rotate_left
                · (intro w hSw; (try dsimp only at hSw); go_simp; try (with_reducible rfl))
                try simp only [Act.put, List.setIfInBounds_toArray, List.set_cons_zero, List.set_cons_succ]
                refine wpAnyH_take (i := 2) (oi := ⟨_, _, _, _, _, _⟩) (v := ?_) rfl (by kernel_rfl) (by kernel_rfl) (by kernel_rfl) (fun _ _ _ h => h) (Or.inl ⟨by rfl, ?_⟩) hHeld ?_
                rotate_left
                · (intro w hSw; (try dsimp only at hSw); go_simp; try (with_reducible rfl))
                try simp only [Act.put, List.setIfInBounds_toArray, List.set_cons_zero, List.set_cons_succ]
                refine wpAnyH_take (i := 3) (oi := ⟨_, _, _, _, _, _⟩) (v := ?_) rfl (by kernel_rfl) (by kernel_rfl) (by kernel_rfl) (fun _ _ _ h => h) (Or.inl ⟨by rfl, ?_⟩) hHeld ?_
                rotate_left
                · (intro w hSw; (try dsimp only at hSw); go_simp; try (with_reducible rfl))
                try simp only [Act.put, List.setIfInBounds_toArray, List.set_cons_zero, List.set_cons_succ]
                refine wpAnyH_take (i := 4) (oi := ⟨_, _, _, _, _, _⟩) (v := ?_) rfl (by kernel_rfl) (by kernel_rfl) (by kernel_rfl) (fun _ _ _ h => h) (Or.inl ⟨by rfl, ?_⟩) hHeld ?_
                rotate_left
                · (intro w hSw; (try dsimp only at hSw); have e0 := (hSw.cell (p := ⟨bg, offg + k * 6, none⟩) hnbg hbgw).trans e0; have e1 := (hSw.cell (p := ⟨bg, offg + k * 6 + 1, none⟩) hnbg hbgw).trans e1; have e2 := (hSw.cell (p := ⟨bg, offg + k * 6 + 2, none⟩) hnbg hbgw).trans e2; have e3 := (hSw.cell (p := ⟨bg, offg + k * 6 + 3, none⟩) hnbg hbgw).trans e3; have e4 := (hSw.cell (p := ⟨bg, offg + k * 6 + 4, none⟩) hnbg hbgw).trans e4; have e5 := (hSw.cell (p := ⟨bg, offg + k * 6 + 5, none⟩) hnbg hbgw).trans e5; have v0 := (hSw.cell (p := ⟨gr, (k + 1) * 2, none⟩) hngr hgrw).trans v0; have v1 := (hSw.cell (p := ⟨gr, (k + 1) * 2 + 1, none⟩) hngr hgrw).trans v1; go_simp; try (with_reducible rfl))
                try simp only [Act.put, List.setIfInBounds_toArray, List.set_cons_zero, List.set_cons_succ]
                refine wpAnyH_take (i := 5) (oi := ⟨_, _, _, _, _, _⟩) (v := ?_) rfl (by kernel_rfl) (by kernel_rfl) (by kernel_rfl) (fun _ _ _ h => h) (Or.inl ⟨by rfl, ?_⟩) hHeld ?_
                rotate_left
                · (intro w hSw; (try dsimp only at hSw); go_simp; try (with_reducible rfl))
                try simp only [Act.put, List.setIfInBounds_toArray, List.set_cons_zero, List.set_cons_succ]
                refine wpAnyH_take (i := 6) (oi := ⟨_, _, _, _, _, _⟩) (v := ?_) rfl (by kernel_rfl) (by kernel_rfl) (by kernel_rfl) (fun _ _ _ h => h) (Or.inl ⟨by rfl, ?_⟩) hHeld ?_
                rotate_left
                · (intro w hSw; (try dsimp only at hSw); go_simp; try (with_reducible rfl))
                try simp only [Act.put, List.setIfInBounds_toArray, List.set_cons_zero, List.set_cons_succ]
                refine wpAnyH_take (i := 7) (oi := ⟨_, _, _, _, _, _⟩) (v := ?_) rfl (by kernel_rfl) (by kernel_rfl) (by kernel_rfl) (fun _ _ _ h => h) (Or.inl ⟨by rfl, ?_⟩) hHeld ?_
                rotate_left
                · (intro w hSw; (try dsimp only at hSw); go_simp; try (with_reducible rfl))
                try simp only [Act.put, List.setIfInBounds_toArray, List.set_cons_zero, List.set_cons_succ]
                refine wpAnyH_take (i := 10) (oi := ⟨_, _, _, _, _, _⟩) (v := ?_) rfl (by kernel_rfl) (by kernel_rfl) (by kernel_rfl) (fun _ _ _ h => h) (Or.inl ⟨by rfl, ?_⟩) hHeld ?_
                rotate_left
                · (intro w hSw; (try dsimp only at hSw); go_simp; try (with_reducible rfl))
                try simp only [Act.put, List.setIfInBounds_toArray, List.set_cons_zero, List.set_cons_succ]
                refine wpAnyH_take (i := 11) (oi := ⟨_, _, _, _, _, _⟩) (v := ?_) rfl (by kernel_rfl) (by kernel_rfl) (by kernel_rfl) (fun _ _ _ h => h) (Or.inl ⟨by rfl, ?_⟩) hHeld ?_
                rotate_left
                · (intro w hSw; (try dsimp only at hSw); go_simp; try (with_reducible rfl))
                try simp only [Act.put, List.setIfInBounds_toArray, List.set_cons_zero, List.set_cons_succ]
                refine wpAnyH_take (i := 12) (oi := ⟨_, _, _, _, _, _⟩) (v := ?_) rfl (by kernel_rfl) (by kernel_rfl) (by kernel_rfl) (fun _ _ _ h => h) (Or.inl ⟨by rfl, ?_⟩) hHeld ?_
                rotate_left
                · (intro w hSw; (try dsimp only at hSw); go_simp; try (with_reducible rfl))
                try simp only [Act.put, List.setIfInBounds_toArray, List.set_cons_zero, List.set_cons_succ]
                refine wpAnyH_take (i := 13) (oi := ⟨_, _, _, _, _, _⟩) (v := ?_) rfl (by kernel_rfl) (by kernel_rfl) (by kernel_rfl) (fun _ _ _ h => h) (Or.inl ⟨by rfl, ?_⟩) hHeld ?_
                rotate_left
                · (intro w hSw; (try dsimp only at hSw); go_simp; try (with_reducible rfl))
                try simp only [Act.put, List.setIfInBounds_toArray, List.set_cons_zero, List.set_cons_succ]
                refine wpAnyH_take (i := 14) (oi := ⟨_, _, _, _, _, _⟩) (v := ?_) rfl (by kernel_rfl) (by kernel_rfl) (by kernel_rfl) (fun _ _ _ h => h) (Or.inl ⟨by rfl, ?_⟩) hHeld ?_
                rotate_left
                · (intro w hSw; (try dsimp only at hSw); have e0 := (hSw.cell (p := ⟨bg, offg + k * 6, none⟩) hnbg hbgw).trans e0; have e1 := (hSw.cell (p := ⟨bg, offg + k * 6 + 1, none⟩) hnbg hbgw).trans e1; have e2 := (hSw.cell (p := ⟨bg, offg + k * 6 + 2, none⟩) hnbg hbgw).trans e2; have e3 := (hSw.cell (p := ⟨bg, offg + k * 6 + 3, none⟩) hnbg hbgw).trans e3; have e4 := (hSw.cell (p := ⟨bg, offg + k * 6 + 4, none⟩) hnbg hbgw).trans e4; have e5 := (hSw.cell (p := ⟨bg, offg + k * 6 + 5, none⟩) hnbg hbgw).trans e5; have v0 := (hSw.cell (p := ⟨gr, (k + 1) * 2, none⟩) hngr hgrw).trans v0; have v1 := (hSw.cell (p := ⟨gr, (k + 1) * 2 + 1, none⟩) hngr hgrw).trans v1; go_simp; try (with_reducible rfl))
                try simp only [Act.put, List.setIfInBounds_toArray, List.set_cons_zero, List.set_cons_succ]
                refine wpAnyH_ready (rs := [8]) (by kernel_rfl) (by simp) ?_
                refine AllReadyH.cons (o := ⟨_, _, _, _, _, _⟩) rfl (fun K hK => ?_) AllReadyH.nil
                obtain ⟨z0, z1, _, _⟩ := own_sp hvf Hfk.out HLl.out
                go_simp
                clear z0 z1
                have hHeldN := hHeld
                refine hK.out _ _ ?_ (fun hHeld2 => ?_)
                · exact hHeldN
                clear hK K hHeld hHeldN; have hHeld := hHeld2; clear hHeld2
                try simp only [Act.put, List.setIfInBounds_toArray, List.set_cons_zero, List.set_cons_succ]
                refine wpAnyH_ready (rs := [9]) (by kernel_rfl) (by simp) ?_
                refine AllReadyH.cons (o := ⟨_, _, _, _, _, _⟩) rfl (fun K hK => ?_) AllReadyH.nil
                go_simp
                refine (rout_any _ _ _ _ _ _ _ _ _ lb1 mb1 lb2 mb2 mb3 lb3 lb4 mb4).mono ?_
                rintro e V85 ⟨rfl, hb⟩
                go_wp2_with fail
                have hHeldN := hHeld.trans (Kept.all _ hb)
                have hvf := hvf.bel hb
                have hbc := hbc.trans (hb.mono hbc.size)
                refine hK.out _ _ ?_ (fun hHeld2 => ?_)
                · exact hHeldN
                clear hK K hHeld hHeldN hb; have hHeld := hHeld2; clear hHeld2
                try simp only [Act.put, List.setIfInBounds_toArray, List.set_cons_zero, List.set_cons_succ]
                refine wpAnyH_ready (rs := [15]) (by kernel_rfl) (by simp) ?_
                refine AllReadyH.cons (o := ⟨_, _, _, _, _, _⟩) rfl (fun K hK => ?_) AllReadyH.nil
                go_simp
                refine (rcut_any _ _ _ _ _).mono ?_
                rintro e V91 ⟨rfl, hb⟩
                go_wp2_with fail
                have hHeldN := hHeld.trans (Kept.all _ hb)
                have hvf := hvf.bel hb
                have hbc := hbc.trans (hb.mono hbc.size)
                refine hK.out _ _ ?_ (fun hHeld2 => ?_)
                · exact hHeldN
                clear hK K hHeld hHeldN hb; have hHeld := hHeld2; clear hHeld2
                try simp only [Act.put, List.setIfInBounds_toArray, List.set_cons_zero, List.set_cons_succ]
                refine wpAnyH_ready (rs := [16]) (by kernel_rfl) (by simp) ?_
                refine AllReadyH.cons (o := ⟨_, _, _, _, _, _⟩) rfl (fun K hK => ?_) AllReadyH.nil
                go_simp
                obtain ⟨b92, V92, eb92, ev92, r92, hb⟩ := mk_row (cells := Sp.cells) V91 #[.int .i64 (cutS ⟨leastF ⟨⟨a0, a1⟩, ⟨a2, a3⟩, ⟨a4, a5⟩⟩ f.lo, mostF ⟨⟨a0, a1⟩, ⟨a2, a3⟩, ⟨a4, a5⟩⟩ f.hi⟩ r1).lo, .int .i64 (cutS ⟨leastF ⟨⟨a0, a1⟩, ⟨a2, a3⟩, ⟨a4, a5⟩⟩ f.lo, mostF ⟨⟨a0, a1⟩, ⟨a2, a3⟩, ⟨a4, a5⟩⟩ f.hi⟩ r1).hi] 24 [(cutS ⟨leastF ⟨⟨a0, a1⟩, ⟨a2, a3⟩, ⟨a4, a5⟩⟩ f.lo, mostF ⟨⟨a0, a1⟩, ⟨a2, a3⟩, ⟨a4, a5⟩⟩ f.hi⟩ r1)] rfl
                rw [ev92.out, eb92.out]
                have hHeldN := hHeld.trans (Kept.all _ hb)
                have hvf := hvf.bel hb
                have hbc := hbc.trans (hb.mono hbc.size)
                refine hK.out _ _ ?_ (fun hHeld2 => ?_)
                · exact hHeldN
                clear hK K hHeld hHeldN hb; have hHeld := hHeld2; clear hHeld2
                try simp only [Act.put, List.setIfInBounds_toArray, List.set_cons_zero, List.set_cons_succ]
                refine wpAnyH_ready (rs := [17]) (by kernel_rfl) (by simp) ?_
                refine AllReadyH.cons (o := ⟨_, _, _, _, _, _⟩) rfl (fun K hK => ?_) AllReadyH.nil
                refine op_app (v := .slice (some ⟨gf, 0, none⟩) (k + 1) cf) (xs := LL) (ys := [(cutS ⟨leastF ⟨⟨a0, a1⟩, ⟨a2, a3⟩, ⟨a4, a5⟩⟩ f.lo, mostF ⟨⟨a0, a1⟩, ⟨a2, a3⟩, ⟨a4, a5⟩⟩ f.hi⟩ r1)]) (n := 1) el_sp (.tmp 76) (.tmp 92) rfl rfl hvf rfl rfl r92 (by omega) (Nat.le_trans hbase hHeld.size) ?_
                intro vv V93 hown hg hat
                have hkg := hHeld.trans ((Kept.grown hg).mono fun b _ hb e => hb e.symm)
                refine hK.out _ _ ?_ (fun hHeld2 => ?_)
                · (try dsimp only); exact hkg
                clear hK K hHeld; have hHeld := hHeld2; clear hHeld2
                try simp only [Act.put, List.setIfInBounds_toArray, List.set_cons_zero, List.set_cons_succ]
                refine wpAnyH_take (i := 18) (oi := ⟨_, _, _, _, _, _⟩) (v := ?_) rfl (by kernel_rfl) (by kernel_rfl) (by kernel_rfl) (fun _ _ _ h => h) (Or.inl ⟨by rfl, ?_⟩) hHeld ?_
                rotate_left
                · (intro w hSw; (try dsimp only at hSw); go_simp; try (with_reducible rfl))
                try simp only [Act.put, List.setIfInBounds_toArray, List.set_cons_zero, List.set_cons_succ]
                refine wpAnyH_done (by kernel_rfl) ?_ _
                go_wp2_with fail
                have hHb := Hhb.out
                refine ⟨⟨k + 1, vv, rfl, by go_num, by omega, by rw [Hsnoc.out, Hed.out]; exact hown, hide (fun j hj => ?_), hHb.trans (hkg.below (fun b hb e => by simp [Value.ownBlock] at e; omega) hHb.size)⟩, by simp [intOf]; omega⟩
                by_cases hjk : j = k
                · rw [hjk, ← Hfe.out]; exact hok
                · exact Hok.out j (by omega)
              · have hlt2 : f.hi < f.lo := by unfold okS at hok; omega
                have hnone : fitS g l s = none := by
                  unfold fitS
                  rw [← Hn.out]
                  exact flowsF_torn k g _ s (by rw [← Hn.out]; exact hk) (by rw [← Hfe.out]; exact hok)
                have Hnone := hide hnone
                have hgfw : gf < wr.heap.size := hgf2
                clear hok hnone
                go_wp2_with fail
                refine wp_region_held_drew (S := (fun W => Below wr.heap.size wr W)) (by kernel_rfl) (by (try dsimp only); exact (Below.refl _ _).drew) (fun hHeld => ?_)
                generalize World.drew wr = Wd14 at hHeld ⊢
                have hbc := Below.refl Wd14.heap.size Wd14
                refine wpAnyH_take (i := 0) (oi := ⟨_, _, _, _, _, _⟩) (v := ?_) rfl (by kernel_rfl) (by kernel_rfl) (by kernel_rfl) (fun _ _ _ h => h) (Or.inl ⟨by rfl, ?_⟩) hHeld ?_
                rotate_left
                · (intro w hSw; (try dsimp only at hSw); go_simp; try (with_reducible rfl))
                try simp only [Act.put, List.setIfInBounds_toArray, List.set_cons_zero, List.set_cons_succ]
                refine wpAnyH_take (i := 1) (oi := ⟨_, _, _, _, _, _⟩) (v := ?_) rfl (by kernel_rfl) (by kernel_rfl) (by kernel_rfl) (fun _ _ _ h => h) (Or.inl ⟨by rfl, ?_⟩) hHeld ?_
                rotate_left
                · (intro w hSw; (try dsimp only at hSw); go_simp; try (with_reducible rfl))
                try simp only [Act.put, List.setIfInBounds_toArray, List.set_cons_zero, List.set_cons_succ]
                refine wpAnyH_take (i := 2) (oi := ⟨_, _, _, _, _, _⟩) (v := ?_) rfl (by kernel_rfl) (by kernel_rfl) (by kernel_rfl) (fun _ _ _ h => h) (Or.inl ⟨by rfl, ?_⟩) hHeld ?_
                rotate_left
                · (intro w hSw; (try dsimp only at hSw); go_simp; try (with_reducible rfl))
                try simp only [Act.put, List.setIfInBounds_toArray, List.set_cons_zero, List.set_cons_succ]
                refine wpAnyH_take (i := 3) (oi := ⟨_, _, _, _, _, _⟩) (v := ?_) rfl (by kernel_rfl) (by kernel_rfl) (by kernel_rfl) (fun _ _ _ h => h) (Or.inl ⟨by rfl, ?_⟩) hHeld ?_
                rotate_left
                · (intro w hSw; (try dsimp only at hSw); go_simp; try (with_reducible rfl))
                try simp only [Act.put, List.setIfInBounds_toArray, List.set_cons_zero, List.set_cons_succ]
                refine wpAnyH_take (i := 4) (oi := ⟨_, _, _, _, _, _⟩) (v := ?_) rfl (by kernel_rfl) (by kernel_rfl) (by kernel_rfl) (fun _ _ _ h => h) (Or.inl ⟨by rfl, ?_⟩) hHeld ?_
                rotate_left
                · (intro w hSw; (try dsimp only at hSw); have d0 := (hSw.cell (p := ⟨gf, k * 2, none⟩) hgfw).trans d0; have d1 := (hSw.cell (p := ⟨gf, k * 2 + 1, none⟩) hgfw).trans d1; go_simp; try (with_reducible rfl))
                try simp only [Act.put, List.setIfInBounds_toArray, List.set_cons_zero, List.set_cons_succ]
                refine wpAnyH_take (i := 5) (oi := ⟨_, _, _, _, _, _⟩) (v := ?_) rfl (by kernel_rfl) (by kernel_rfl) (by kernel_rfl) (fun _ _ _ h => h) (Or.inl ⟨by rfl, ?_⟩) hHeld ?_
                rotate_left
                · (intro w hSw; (try dsimp only at hSw); go_simp; try (with_reducible rfl))
                try simp only [Act.put, List.setIfInBounds_toArray, List.set_cons_zero, List.set_cons_succ]
                refine wpAnyH_take (i := 6) (oi := ⟨_, _, _, _, _, _⟩) (v := ?_) rfl (by kernel_rfl) (by kernel_rfl) (by kernel_rfl) (fun _ _ _ h => h) (Or.inl ⟨by rfl, ?_⟩) hHeld ?_
                rotate_left
                · (intro w hSw; (try dsimp only at hSw); go_simp; try (with_reducible rfl))
                try simp only [Act.put, List.setIfInBounds_toArray, List.set_cons_zero, List.set_cons_succ]
                refine wpAnyH_take (i := 7) (oi := ⟨_, _, _, _, _, _⟩) (v := ?_) rfl (by kernel_rfl) (by kernel_rfl) (by kernel_rfl) (fun _ _ _ h => h) (Or.inl ⟨by rfl, ?_⟩) hHeld ?_
                rotate_left
                · (intro w hSw; (try dsimp only at hSw); go_simp; try (with_reducible rfl))
                try simp only [Act.put, List.setIfInBounds_toArray, List.set_cons_zero, List.set_cons_succ]
                refine wpAnyH_take (i := 8) (oi := ⟨_, _, _, _, _, _⟩) (v := ?_) rfl (by kernel_rfl) (by kernel_rfl) (by kernel_rfl) (fun _ _ _ h => h) (Or.inl ⟨by rfl, ?_⟩) hHeld ?_
                rotate_left
                · (intro w hSw; (try dsimp only at hSw); go_simp; try (with_reducible rfl))
                try simp only [Act.put, List.setIfInBounds_toArray, List.set_cons_zero, List.set_cons_succ]
                refine wpAnyH_take (i := 9) (oi := ⟨_, _, _, _, _, _⟩) (v := ?_) rfl (by kernel_rfl) (by kernel_rfl) (by kernel_rfl) (fun _ _ _ h => h) (Or.inl ⟨by rfl, ?_⟩) hHeld ?_
                rotate_left
                · (intro w hSw; (try dsimp only at hSw); have d0 := (hSw.cell (p := ⟨gf, k * 2, none⟩) hgfw).trans d0; have d1 := (hSw.cell (p := ⟨gf, k * 2 + 1, none⟩) hgfw).trans d1; go_simp; try (with_reducible rfl))
                try simp only [Act.put, List.setIfInBounds_toArray, List.set_cons_zero, List.set_cons_succ]
                refine wpAnyH_take (i := 10) (oi := ⟨_, _, _, _, _, _⟩) (v := ?_) rfl (by kernel_rfl) (by kernel_rfl) (by kernel_rfl) (fun _ _ _ h => h) (Or.inl ⟨by rfl, ?_⟩) hHeld ?_
                rotate_left
                · (intro w hSw; (try dsimp only at hSw); go_simp; try (with_reducible rfl))
                try simp only [Act.put, List.setIfInBounds_toArray, List.set_cons_zero, List.set_cons_succ]
                refine wpAnyH_done (by kernel_rfl) ?_ _
                go_wp2_with fail
                go_ret2
                have hBf := hB3.trans ((Hb.out.trans (hHeld.mono hszb)).mono hB3.size)
                exact ⟨_, by rw [Hnone.out]; rfl, by rw [Hnone.out]; exact Own.nil _ _ _ _ _, hBf⟩
            · obtain rfl : n = k := by omega
              have hgfw : gf < wr.heap.size := hgf2
              by_cases hok : okS f
              · unfold okS at hok
                have hnlt : ¬ f.hi < f.lo := by omega
                go_wp2_with fail
                refine wp_region_held_drew (S := (fun W => Below wr.heap.size wr W)) (by kernel_rfl) (by (try dsimp only); exact (Below.refl _ _).drew) (fun hHeld => ?_)
                generalize World.drew wr = Wd17 at hHeld ⊢
                have hbc := Below.refl Wd17.heap.size Wd17
                refine wpAnyH_take (i := 0) (oi := ⟨_, _, _, _, _, _⟩) (v := ?_) rfl (by kernel_rfl) (by kernel_rfl) (by kernel_rfl) (fun _ _ _ h => h) (Or.inl ⟨by rfl, ?_⟩) hHeld ?_
                rotate_left
                · (intro w hSw; (try dsimp only at hSw); go_simp; try (with_reducible rfl))
                try simp only [Act.put, List.setIfInBounds_toArray, List.set_cons_zero, List.set_cons_succ]
                refine wpAnyH_take (i := 1) (oi := ⟨_, _, _, _, _, _⟩) (v := ?_) rfl (by kernel_rfl) (by kernel_rfl) (by kernel_rfl) (fun _ _ _ h => h) (Or.inl ⟨by rfl, ?_⟩) hHeld ?_
                rotate_left
                · (intro w hSw; (try dsimp only at hSw); go_simp; try (with_reducible rfl))
                try simp only [Act.put, List.setIfInBounds_toArray, List.set_cons_zero, List.set_cons_succ]
                refine wpAnyH_take (i := 2) (oi := ⟨_, _, _, _, _, _⟩) (v := ?_) rfl (by kernel_rfl) (by kernel_rfl) (by kernel_rfl) (fun _ _ _ h => h) (Or.inl ⟨by rfl, ?_⟩) hHeld ?_
                rotate_left
                · (intro w hSw; (try dsimp only at hSw); go_simp; try (with_reducible rfl))
                try simp only [Act.put, List.setIfInBounds_toArray, List.set_cons_zero, List.set_cons_succ]
                refine wpAnyH_take (i := 3) (oi := ⟨_, _, _, _, _, _⟩) (v := ?_) rfl (by kernel_rfl) (by kernel_rfl) (by kernel_rfl) (fun _ _ _ h => h) (Or.inl ⟨by rfl, ?_⟩) hHeld ?_
                rotate_left
                · (intro w hSw; (try dsimp only at hSw); go_simp; try (with_reducible rfl))
                try simp only [Act.put, List.setIfInBounds_toArray, List.set_cons_zero, List.set_cons_succ]
                refine wpAnyH_take (i := 4) (oi := ⟨_, _, _, _, _, _⟩) (v := ?_) rfl (by kernel_rfl) (by kernel_rfl) (by kernel_rfl) (fun _ _ _ h => h) (Or.inl ⟨by rfl, ?_⟩) hHeld ?_
                rotate_left
                · (intro w hSw; (try dsimp only at hSw); go_simp; try (with_reducible rfl))
                try simp only [Act.put, List.setIfInBounds_toArray, List.set_cons_zero, List.set_cons_succ]
                refine wpAnyH_take (i := 5) (oi := ⟨_, _, _, _, _, _⟩) (v := ?_) rfl (by kernel_rfl) (by kernel_rfl) (by kernel_rfl) (fun _ _ _ h => h) (Or.inl ⟨by rfl, ?_⟩) hHeld ?_
                rotate_left
                · (intro w hSw; (try dsimp only at hSw); have d0 := (hSw.cell (p := ⟨gf, n * 2, none⟩) hgfw).trans d0; have d1 := (hSw.cell (p := ⟨gf, n * 2 + 1, none⟩) hgfw).trans d1; go_simp; try (with_reducible rfl))
                try simp only [Act.put, List.setIfInBounds_toArray, List.set_cons_zero, List.set_cons_succ]
                refine wpAnyH_take (i := 6) (oi := ⟨_, _, _, _, _, _⟩) (v := ?_) rfl (by kernel_rfl) (by kernel_rfl) (by kernel_rfl) (fun _ _ _ h => h) (Or.inl ⟨by rfl, ?_⟩) hHeld ?_
                rotate_left
                · (intro w hSw; (try dsimp only at hSw); go_simp; try (with_reducible rfl))
                try simp only [Act.put, List.setIfInBounds_toArray, List.set_cons_zero, List.set_cons_succ]
                refine wpAnyH_take (i := 7) (oi := ⟨_, _, _, _, _, _⟩) (v := ?_) rfl (by kernel_rfl) (by kernel_rfl) (by kernel_rfl) (fun _ _ _ h => h) (Or.inl ⟨by rfl, ?_⟩) hHeld ?_
                rotate_left
                · (intro w hSw; (try dsimp only at hSw); go_simp; try (with_reducible rfl))
                try simp only [Act.put, List.setIfInBounds_toArray, List.set_cons_zero, List.set_cons_succ]
                refine wpAnyH_take (i := 8) (oi := ⟨_, _, _, _, _, _⟩) (v := ?_) rfl (by kernel_rfl) (by kernel_rfl) (by kernel_rfl) (fun _ _ _ h => h) (Or.inl ⟨by rfl, ?_⟩) hHeld ?_
                rotate_left
                · (intro w hSw; (try dsimp only at hSw); go_simp; try (with_reducible rfl))
                try simp only [Act.put, List.setIfInBounds_toArray, List.set_cons_zero, List.set_cons_succ]
                refine wpAnyH_take (i := 9) (oi := ⟨_, _, _, _, _, _⟩) (v := ?_) rfl (by kernel_rfl) (by kernel_rfl) (by kernel_rfl) (fun _ _ _ h => h) (Or.inl ⟨by rfl, ?_⟩) hHeld ?_
                rotate_left
                · (intro w hSw; (try dsimp only at hSw); go_simp; try (with_reducible rfl))
                try simp only [Act.put, List.setIfInBounds_toArray, List.set_cons_zero, List.set_cons_succ]
                refine wpAnyH_take (i := 10) (oi := ⟨_, _, _, _, _, _⟩) (v := ?_) rfl (by kernel_rfl) (by kernel_rfl) (by kernel_rfl) (fun _ _ _ h => h) (Or.inl ⟨by rfl, ?_⟩) hHeld ?_
                rotate_left
                · (intro w hSw; (try dsimp only at hSw); go_simp; try (with_reducible rfl))
                try simp only [Act.put, List.setIfInBounds_toArray, List.set_cons_zero, List.set_cons_succ]
                refine wpAnyH_take (i := 11) (oi := ⟨_, _, _, _, _, _⟩) (v := ?_) rfl (by kernel_rfl) (by kernel_rfl) (by kernel_rfl) (fun _ _ _ h => h) (Or.inl ⟨by rfl, ?_⟩) hHeld ?_
                rotate_left
                · (intro w hSw; (try dsimp only at hSw); have d0 := (hSw.cell (p := ⟨gf, n * 2, none⟩) hgfw).trans d0; have d1 := (hSw.cell (p := ⟨gf, n * 2 + 1, none⟩) hgfw).trans d1; go_simp; try (with_reducible rfl))
                try simp only [Act.put, List.setIfInBounds_toArray, List.set_cons_zero, List.set_cons_succ]
                refine wpAnyH_take (i := 12) (oi := ⟨_, _, _, _, _, _⟩) (v := ?_) rfl (by kernel_rfl) (by kernel_rfl) (by kernel_rfl) (fun _ _ _ h => h) (Or.inl ⟨by rfl, ?_⟩) hHeld ?_
                rotate_left
                · (intro w hSw; (try dsimp only at hSw); go_simp; try (with_reducible rfl))
                try simp only [Act.put, List.setIfInBounds_toArray, List.set_cons_zero, List.set_cons_succ]
                refine wpAnyH_done (by kernel_rfl) ?_ _
                go_wp2_with fail
                have hvf4 := hvf.bel hHeld
                have hB4 := Hb.out.trans (hHeld.mono hszb)
                have hUp : UpInv g (rdS n l) s n LL := by
                  rw [HLL.out, Hn.out]
                  exact UpInv.start (by rw [← Hn.out, ← Hfe.out]; exact hok)
                have HUp := hide hUp; have Hvf4 := hide hvf4
                have hgf4 : gf < Wd17.heap.size := by have := hHeld.size; omega
                have hsz34 : w3.heap.size ≤ Wd17.heap.size := hB4.size
                have Hok2 : Hid (∀ j, j ≤ n → okS (dnK g (rdS n l) s j)) := hide (fun j hj => by
                  by_cases hjk : j = n
                  · rw [hjk, ← Hfe.out]; exact hok
                  · exact Hok.out j (by omega))
                clear hvf4 hUp hvf d0 d1 hok hnlt hbc
                generalize Wd17 = w4 at hHeld hB4 Hvf4 hgf4 hsz34 ⊢
                have Hx4 : Hid (Rd w4 w1.heap.size Rc.cells A g) := hide (Hx3.out.keptR (Kept.all (fun _ => True) hB4) (fun _ _ => trivial) hsz13)
                have HB4 := hide hB4
                clear hHeld hB4
                go_loopw [13] (fun i wr => ∃ (m : Nat) (F : List Sp), i = .int .i64 ((m : Int) - 1) ∧ m ≤ n ∧ Own wr w3.heap.size 24 2 Sp.cells (.slice (some ⟨gf, 0, none⟩) (n + 1) cf) F ∧ Hid (UpInv g (rdS n l) s m F) ∧ Kept (fun b => b < w4.heap.size ∧ b ≠ gf) w4 wr) (fun i _ => (intOf i + 1).toNat)
                case atStart => exact ⟨n, LL, rfl, by omega, Hvf4.out, HUp, Kept.refl _ _⟩
                case round => as_aux_lemma =>
                  obtain ⟨m, F, rfl, hm, hF, HU, hkz⟩ := hrel
                  cases m with
                  | zero =>
                    have hsome := HU.out.done
                    have Hsome := hide (show fitS g l s = some F by unfold fitS; rw [← Hn.out]; exact hsome)
                    have hF2 := hF
                    have e0 : ((0 : Nat) : Int) - 1 = -1 := by omega
                    rw [e0]
                    have hBf := (hB3.trans (HB4.out.mono hB3.size)).trans (hkz.below (fun b hb => ⟨by omega, by omega⟩) (by omega))
                    have hsz03 : w.heap.size ≤ w3.heap.size := by omega
                    clear hsome e0
                    go_wp2_with fail
                    go_ret2
                    exact ⟨_, by rw [Hsome.out]; rfl, by rw [Hsome.out]; exact hF2.mono hsz03, hBf⟩
                  | succ m =>
                    obtain ⟨r, hrg⟩ : ∃ r, g[m]? = some r := ⟨_, List.getElem?_eq_getElem (by rw [← Hn.out]; omega)⟩
                    obtain ⟨t, hf0, hf1, hU2, hb⟩ := HU.out.step hrg (Hok2.out m (by omega))
                    obtain ⟨bg, offg, a0, a1, a2, a3, a4, a5, rfl, hbg, hxk, e0, e1, e2, e3, e4, e5⟩ := (Hx4.out.keptR hkz (fun b hb => ⟨by omega, by omega⟩) (by omega)).rc (i := m) (by have := Hn.out; omega)
                    rw [hrg] at hxk
                    injection hxk with hxk
                    subst hxk
                    have hrf := Hfine.out _ (List.mem_of_getElem? hrg)
                    have hbdm := (Hbd.out m (by rw [← Hn.out]; omega) (fun j hj => Hok2.out j (by omega))).2
                    have hokm := Hok2.out m (by omega)
                    unfold okS at hokm
                    obtain ⟨u1, u2, u3⟩ := hb Hfine.out
                    obtain ⟨f, hfe⟩ : ∃ f, f = dnK g (rdS n l) s m := ⟨_, rfl⟩
                    rw [← hfe] at hf0 hU2 hbdm hokm u1 u3
                    have hFl : n + 1 = F.length := by rw [HU.out.1, Hn.out]
                    obtain ⟨c0, c1, _, _⟩ := own_sp hF hf1 hFl
                    have HFl := hide hFl; have HU2 := hide hU2; have Hf0 := hide hf0; have Hkz := hide hkz; have Hrg := hide hrg
                    have e6 : ((m + 1 : Nat) : Int) - 1 = (m : Int) := by omega
                    rw [e6]
                    have ib1 : (m : Int) + 1 < (n : Int) + 1 := by omega
                    have ib2 : IntKind.i64.wrap ((m : Int) + 1) = (m : Int) + 1 := wrapI (by omega)
                    have ib3 : 0 ≤ (m : Int) + 1 := by omega
                    have ib4 : (m : Int) < (n : Int) := by omega
                    have ib5 : (m : Int) < (n : Int) + 1 := by omega
                    have hbgw : bg < wr.heap.size := by have := hkz.size; omega
                    have hgfw : gf < wr.heap.size := by have := hkz.size; omega
                    clear hf0 hf1 hU2 hb hrg hFl hkz hfe e6
                    go_wp2_with fail
                    refine cut2 (C := fun (b14 b15 : Nat) (W : World) => At W b14 [.int .i64 a0, .int .i64 a1, .int .i64 a2, .int .i64 a3, .int .i64 a4, .int .i64 a5] ∧ At W b15 [.int .i64 t.lo, .int .i64 t.hi] ∧ Below wr.heap.size wr W ∧ wr.heap.size ≤ b14 ∧ wr.heap.size ≤ b15) (G := ?_) ?_ ?_
                    rotate_left
                    · intro hCut
                      go_region
                      · obtain ⟨b14, V1, eb14, ev14, hx14, hb14, hz14⟩ := mk_bx wr #[.int .i64 a0, .int .i64 a1, .int .i64 a2, .int .i64 a3, .int .i64 a4, .int .i64 a5] 96
                        obtain ⟨b15, V2, eb15, ev15, hx15, hb15, hz15⟩ := mk_bx V1 #[.int .i64 t.lo, .int .i64 t.hi] 24
                        have e15 : b14 + 1 = b15 := by have := eb15.out; omega
                        rw [ev14.out, ev15.out, eb14.out, e15]
                        exact hCut b14 b15 V2.drew ⟨(hx14.at_.below hb15).below (Below.refl _ _).drew, hx15.at_.below (Below.refl _ _).drew, (hb14.trans (hb15.mono hb14.size)).drew, by have := eb14.out; omega, by have := eb14.out; omega⟩
                      · obtain ⟨b15, V1, eb15, ev15, hx15, hb15, hz15⟩ := mk_bx wr #[.int .i64 t.lo, .int .i64 t.hi] 24
                        obtain ⟨b14, V2, eb14, ev14, hx14, hb14, hz14⟩ := mk_bx V1 #[.int .i64 a0, .int .i64 a1, .int .i64 a2, .int .i64 a3, .int .i64 a4, .int .i64 a5] 96
                        have e14 : b15 + 1 = b14 := by have := eb14.out; omega
                        rw [ev15.out, ev14.out, eb15.out, e14]
                        exact hCut b14 b15 V2.drew ⟨hx14.at_.below (Below.refl _ _).drew, (hx15.at_.below hb14).below (Below.refl _ _).drew, (hb15.trans (hb14.mono hb15.size)).drew, by have := eb15.out; omega, by have := eb15.out; omega⟩
                    intro b14 b15 wx ⟨hx14, hx15, hbW, hg14, hg15⟩
                    obtain ⟨z0, z1, z2, z3, z4, z5⟩ := hx14.c6
                    obtain ⟨v0, v1⟩ := hx15.c2
                    have hFW := hF.bel hbW
                    obtain ⟨d0, d1, y0, y1⟩ := own_sp hFW Hf0.out HFl.out
                    obtain ⟨⟨g1, g2, g3⟩, ⟨g4, g5, g6⟩, ⟨g7, g8, g9⟩⟩ := hrf
                    simp only [leastF, mostF] at g1 g2 g3 g4 g5 g6 g7 g8 g9 u1 u3
                    have k1 : IntKind.i64.wrap (t.lo - a5) = t.lo - a5 := wrapI (by omega)
                    have k2 : IntKind.i64.wrap (t.lo - a5 + a2) = t.lo - a5 + a2 := wrapI (by omega)
                    have k3 : IntKind.i64.wrap (a0 - a3) = a0 - a3 := wrapI (by omega)
                    have k4 : IntKind.i64.wrap (max 0 (a0 - a3) + a4) = max 0 (a0 - a3) + a4 := wrapI (by omega)
                    have k5 : IntKind.i64.wrap (t.hi - a4) = t.hi - a4 := wrapI (by omega)
                    have k6 : IntKind.i64.wrap (t.hi - a4 + a3) = t.hi - a4 + a3 := wrapI (by omega)
                    have hyE : upS ⟨⟨a0, a1⟩, ⟨a2, a3⟩, ⟨a4, a5⟩⟩ f t = ⟨if a5 < t.lo then max f.lo (t.lo - a5 + a2) else f.lo, if t.hi < max 0 (a0 - a3) + a4 then min f.hi (t.hi - a4 + a3) else f.hi⟩ := rfl
                    rw [hyE] at HU2
                    have hgfW : gf < wx.heap.size := by have := hbW.size; omega
                    have hn14 : b14 ≠ gf := by omega
                    have hn15 : b15 ≠ gf := by omega
                    have hkW : Kept (fun b => b ≠ gf) wr wx := Kept.all _ hbW
                    clear hyE g1 g2 g3 g4 g5 g6 g7 g8 g9 u1 u2 u3 e0 e1 e2 e3 e4 e5 c0 c1
                    by_cases c2 : t.hi < max 0 (a0 - a3) + a4
                    · rw [if_pos c2] at HU2
                      by_cases c1 : a5 < t.lo
                      · rw [if_pos c1] at HU2
                        obtain ⟨l1, hl1⟩ : ∃ l1, l1 = max f.lo (t.lo - a5 + a2) := ⟨_, rfl⟩
                        rw [← hl1] at HU2
                        have HU3 := HU2.out
                        have Hl1 := hide hl1
                        clear hl1 HU2
                        go_wp2_with fail
                        refine wp_region_held_drew (S := (fun W => Kept (fun b => b ≠ gf) wx W)) (by kernel_rfl) (by (try dsimp only); exact Kept.all _ (Below.refl _ _).drew) (fun hHeld => ?_)
                        have hdr : Below wx.heap.size wx (World.drew wx) := (Below.refl _ _).drew
                        generalize World.drew wx = Wd24 at hHeld hdr ⊢
                        have hFW := hFW.bel hdr
                        have hbc := Below.refl Wd24.heap.size Wd24
                        refine wpAnyH_take (i := 0) (oi := ⟨_, _, _, _, _, _⟩) (v := ?_) rfl (by kernel_rfl) (by kernel_rfl) (by kernel_rfl) (fun _ _ _ h => h) (Or.inl ⟨by rfl, ?_⟩) hHeld ?_
                        rotate_left
                        · (intro w hSw; (try dsimp only at hSw); go_simp; try (with_reducible rfl))
                        try simp only [Act.put, List.setIfInBounds_toArray, List.set_cons_zero, List.set_cons_succ]
                        refine wpAnyH_take (i := 1) (oi := ⟨_, _, _, _, _, _⟩) (v := ?_) rfl (by kernel_rfl) (by kernel_rfl) (by kernel_rfl) (fun _ _ _ h => h) (Or.inl ⟨by rfl, ?_⟩) hHeld ?_
                        rotate_left
                        · (intro w hSw; (try dsimp only at hSw); go_simp; try (with_reducible rfl))
                        try simp only [Act.put, List.setIfInBounds_toArray, List.set_cons_zero, List.set_cons_succ]
                        refine wpAnyH_take (i := 2) (oi := ⟨_, _, _, _, _, _⟩) (v := ?_) rfl (by kernel_rfl) (by kernel_rfl) (by kernel_rfl) (fun _ _ _ h => h) (Or.inl ⟨by rfl, ?_⟩) hHeld ?_
                        rotate_left
                        · (intro w hSw; (try dsimp only at hSw); go_simp; try (with_reducible rfl))
                        try simp only [Act.put, List.setIfInBounds_toArray, List.set_cons_zero, List.set_cons_succ]
                        refine wpAnyH_take (i := 3) (oi := ⟨_, _, _, _, _, _⟩) (v := ?_) rfl (by kernel_rfl) (by kernel_rfl) (by kernel_rfl) (fun _ _ _ h => h) (Or.inl ⟨by rfl, ?_⟩) hHeld ?_
                        rotate_left
                        · (intro w hSw; (try dsimp only at hSw); go_simp; try (with_reducible rfl))
                        try simp only [Act.put, List.setIfInBounds_toArray, List.set_cons_zero, List.set_cons_succ]
                        refine wpAnyH_take (i := 4) (oi := ⟨_, _, _, _, _, _⟩) (v := ?_) rfl (by kernel_rfl) (by kernel_rfl) (by kernel_rfl) (fun _ _ _ h => h) (Or.inl ⟨by rfl, ?_⟩) hHeld ?_
                        rotate_left
                        · (intro w hSw; (try dsimp only at hSw); go_simp; try (with_reducible rfl))
                        try simp only [Act.put, List.setIfInBounds_toArray, List.set_cons_zero, List.set_cons_succ]
                        refine wpAnyH_take (i := 5) (oi := ⟨_, _, _, _, _, _⟩) (v := ?_) rfl (by kernel_rfl) (by kernel_rfl) (by kernel_rfl) (fun _ _ _ h => h) (Or.inl ⟨by rfl, ?_⟩) hHeld ?_
                        rotate_left
                        · (intro w hSw; (try dsimp only at hSw); go_simp; try (with_reducible rfl))
                        try simp only [Act.put, List.setIfInBounds_toArray, List.set_cons_zero, List.set_cons_succ]
                        refine wpAnyH_take (i := 7) (oi := ⟨_, _, _, _, _, _⟩) (v := ?_) rfl (by kernel_rfl) (by kernel_rfl) (by kernel_rfl) (fun _ _ _ h => h) (Or.inl ⟨by rfl, ?_⟩) hHeld ?_
                        rotate_left
                        · (intro w hSw; (try dsimp only at hSw); go_simp; try (with_reducible rfl))
                        try simp only [Act.put, List.setIfInBounds_toArray, List.set_cons_zero, List.set_cons_succ]
                        refine wpAnyH_take (i := 8) (oi := ⟨_, _, _, _, _, _⟩) (v := ?_) rfl (by kernel_rfl) (by kernel_rfl) (by kernel_rfl) (fun _ _ _ h => h) (Or.inl ⟨by rfl, ?_⟩) hHeld ?_
                        rotate_left
                        · (intro w hSw; (try dsimp only at hSw); obtain ⟨z0, z1, z2, z3, z4, z5⟩ := (hx14.kept hSw hn14).c6; obtain ⟨v0, v1⟩ := (hx15.kept hSw hn15).c2; go_simp; try (with_reducible rfl))
                        try simp only [Act.put, List.setIfInBounds_toArray, List.set_cons_zero, List.set_cons_succ]
                        refine wpAnyH_take (i := 9) (oi := ⟨_, _, _, _, _, _⟩) (v := ?_) rfl (by kernel_rfl) (by kernel_rfl) (by kernel_rfl) (fun _ _ _ h => h) (Or.inl ⟨by rfl, ?_⟩) hHeld ?_
                        rotate_left
                        · (intro w hSw; (try dsimp only at hSw); go_simp; try (with_reducible rfl))
                        try simp only [Act.put, List.setIfInBounds_toArray, List.set_cons_zero, List.set_cons_succ]
                        refine wpAnyH_take (i := 10) (oi := ⟨_, _, _, _, _, _⟩) (v := ?_) rfl (by kernel_rfl) (by kernel_rfl) (by kernel_rfl) (fun _ _ _ h => h) (Or.inl ⟨by rfl, ?_⟩) hHeld ?_
                        rotate_left
                        · (intro w hSw; (try dsimp only at hSw); go_simp; try (with_reducible rfl))
                        try simp only [Act.put, List.setIfInBounds_toArray, List.set_cons_zero, List.set_cons_succ]
                        refine wpAnyH_take (i := 11) (oi := ⟨_, _, _, _, _, _⟩) (v := ?_) rfl (by kernel_rfl) (by kernel_rfl) (by kernel_rfl) (fun _ _ _ h => h) (Or.inl ⟨by rfl, ?_⟩) hHeld ?_
                        rotate_left
                        · (intro w hSw; (try dsimp only at hSw); obtain ⟨z0, z1, z2, z3, z4, z5⟩ := (hx14.kept hSw hn14).c6; obtain ⟨v0, v1⟩ := (hx15.kept hSw hn15).c2; go_simp; try (with_reducible rfl))
                        try simp only [Act.put, List.setIfInBounds_toArray, List.set_cons_zero, List.set_cons_succ]
                        refine wpAnyH_take (i := 12) (oi := ⟨_, _, _, _, _, _⟩) (v := ?_) rfl (by kernel_rfl) (by kernel_rfl) (by kernel_rfl) (fun _ _ _ h => h) (Or.inl ⟨by rfl, ?_⟩) hHeld ?_
                        rotate_left
                        · (intro w hSw; (try dsimp only at hSw); go_simp; try (with_reducible rfl))
                        try simp only [Act.put, List.setIfInBounds_toArray, List.set_cons_zero, List.set_cons_succ]
                        refine wpAnyH_take (i := 13) (oi := ⟨_, _, _, _, _, _⟩) (v := ?_) rfl (by kernel_rfl) (by kernel_rfl) (by kernel_rfl) (fun _ _ _ h => h) (Or.inl ⟨by rfl, ?_⟩) hHeld ?_
                        rotate_left
                        · (intro w hSw; (try dsimp only at hSw); go_simp; try (with_reducible rfl))
                        try simp only [Act.put, List.setIfInBounds_toArray, List.set_cons_zero, List.set_cons_succ]
                        refine wpAnyH_take (i := 14) (oi := ⟨_, _, _, _, _, _⟩) (v := ?_) rfl (by kernel_rfl) (by kernel_rfl) (by kernel_rfl) (fun _ _ _ h => h) (Or.inl ⟨by rfl, ?_⟩) hHeld ?_
                        rotate_left
                        · (intro w hSw; (try dsimp only at hSw); go_simp; try (with_reducible rfl))
                        try simp only [Act.put, List.setIfInBounds_toArray, List.set_cons_zero, List.set_cons_succ]
                        refine wpAnyH_take (i := 15) (oi := ⟨_, _, _, _, _, _⟩) (v := ?_) rfl (by kernel_rfl) (by kernel_rfl) (by kernel_rfl) (fun _ _ _ h => h) (Or.inl ⟨by rfl, ?_⟩) hHeld ?_
                        rotate_left
                        · (intro w hSw; (try dsimp only at hSw); obtain ⟨z0, z1, z2, z3, z4, z5⟩ := (hx14.kept hSw hn14).c6; obtain ⟨v0, v1⟩ := (hx15.kept hSw hn15).c2; go_simp; try (with_reducible rfl))
                        try simp only [Act.put, List.setIfInBounds_toArray, List.set_cons_zero, List.set_cons_succ]
                        refine wpAnyH_take (i := 16) (oi := ⟨_, _, _, _, _, _⟩) (v := ?_) rfl (by kernel_rfl) (by kernel_rfl) (by kernel_rfl) (fun _ _ _ h => h) (Or.inl ⟨by rfl, ?_⟩) hHeld ?_
                        rotate_left
                        · (intro w hSw; (try dsimp only at hSw); go_simp; try (with_reducible rfl))
                        try simp only [Act.put, List.setIfInBounds_toArray, List.set_cons_zero, List.set_cons_succ]
                        refine wpAnyH_ready (rs := [6]) (by kernel_rfl) (by simp) ?_
                        refine AllReadyH.cons (o := ⟨_, _, _, _, _, _⟩) rfl (fun K hK => ?_) AllReadyH.nil
                        obtain ⟨z6, z7, _, _⟩ := own_sp hFW Hf0.out HFl.out
                        go_simp
                        clear z6 z7
                        have hHeldN := hHeld
                        refine hK.out _ _ ?_ (fun hHeld2 => ?_)
                        · exact hHeldN
                        clear hK K hHeld hHeldN; have hHeld := hHeld2; clear hHeld2
                        try simp only [Act.put, List.setIfInBounds_toArray, List.set_cons_zero, List.set_cons_succ]
                        refine wpAnyH_take (i := 17) (oi := ⟨_, _, _, _, _, _⟩) (v := ?_) rfl (by kernel_rfl) (by kernel_rfl) (by kernel_rfl) (fun _ _ _ h => h) (Or.inl ⟨by rfl, ?_⟩) hHeld ?_
                        rotate_left
                        · (intro w hSw; (try dsimp only at hSw); go_simp; try (with_reducible rfl))
                        try simp only [Act.put, List.setIfInBounds_toArray, List.set_cons_zero, List.set_cons_succ]
                        refine wpAnyH_take (i := 18) (oi := ⟨_, _, _, _, _, _⟩) (v := ?_) rfl (by kernel_rfl) (by kernel_rfl) (by kernel_rfl) (fun _ _ _ h => h) (Or.inl ⟨by rfl, ?_⟩) hHeld ?_
                        rotate_left
                        · (intro w hSw; (try dsimp only at hSw); go_simp; try (with_reducible rfl))
                        try simp only [Act.put, List.setIfInBounds_toArray, List.set_cons_zero, List.set_cons_succ]
                        refine wpAnyH_take (i := 19) (oi := ⟨_, _, _, _, _, _⟩) (v := ?_) rfl (by kernel_rfl) (by kernel_rfl) (by kernel_rfl) (fun _ _ _ h => h) (Or.inl ⟨by rfl, ?_⟩) hHeld ?_
                        rotate_left
                        · (intro w hSw; (try dsimp only at hSw); go_simp; try (with_reducible rfl))
                        try simp only [Act.put, List.setIfInBounds_toArray, List.set_cons_zero, List.set_cons_succ]
                        refine wpAnyH_ready (rs := [20]) (by kernel_rfl) (by simp) ?_
                        refine AllReadyH.cons (o := ⟨_, _, _, _, _, _⟩) rfl (fun K hK => ?_) AllReadyH.nil
                        obtain ⟨_, _, y4, y5⟩ := own_sp hFW Hf0.out HFl.out
                        obtain ⟨hF1, hk1⟩ := own_lo hFW Hf0.out HFl.out (max f.lo (t.lo - a5 + a2))
                        have HF1 := hide hF1; have Hk1 := hide (hHeld.trans hk1)
                        clear hF1 hk1
                        go_simp
                        refine hK.out _ _ ?_ (fun _ => ?_)
                        · (try dsimp only); exact Hk1.out
                        clear hK K hHeld
                        try simp only [Act.put, List.setIfInBounds_toArray, List.set_cons_zero, List.set_cons_succ]
                        refine wpAnyH_done (by kernel_rfl) ?_ _
                        rw [← Hl1.out]
                        have hF2 := HF1.out; have hk1 := Hk1.out
                        rw [← Hl1.out] at hF2 hk1
                        have hk2 := hk1
                        have hkV := hkW.trans hk2
                        have hx14V := hx14.kept hk2 hn14
                        have hx15V := hx15.kept hk2 hn15
                        generalize Wd24.setCell ⟨gf, m * 2, none⟩ (.int .i64 l1) = V at hkV hF2 hx14V hx15V ⊢
                        clear HF1 Hk1 hk1 hk2
                        have hf2 : (F.set m ⟨l1, f.hi⟩)[m]? = some ⟨l1, f.hi⟩ := List.getElem?_set_self (List.getElem?_eq_some_iff.1 Hf0.out).1
                        have hFl2 : n + 1 = (F.set m ⟨l1, f.hi⟩).length := by rw [List.length_set]; exact HFl.out
                        have HFl2 := hide hFl2
                        obtain ⟨d0', d1', y0', y1'⟩ := own_sp hF2 hf2 hFl2
                        simp only at d0' d1'
                        obtain ⟨z0, z1, z2, z3, z4, z5⟩ := hx14V.c6
                        obtain ⟨v0, v1⟩ := hx15V.c2
                        have Hf2 := hide hf2
                        clear hf2 hFl2 d0 d1 y0 y1 hFW hkW hx14 hx15
                        go_wp2_with fail
                        have hgfV : gf < V.heap.size := by have := hkV.size; omega
                        refine wp_region_held_drew (S := (fun W => Kept (fun b => b ≠ gf) V W)) (by kernel_rfl) (by (try dsimp only); exact Kept.all _ (Below.refl _ _).drew) (fun hHeld => ?_)
                        have hdr : Below V.heap.size V (World.drew V) := (Below.refl _ _).drew
                        generalize World.drew V = Wd26 at hHeld hdr ⊢
                        have hF2 := hF2.bel hdr
                        have hbc := Below.refl Wd26.heap.size Wd26
                        refine wpAnyH_take (i := 0) (oi := ⟨_, _, _, _, _, _⟩) (v := ?_) rfl (by kernel_rfl) (by kernel_rfl) (by kernel_rfl) (fun _ _ _ h => h) (Or.inl ⟨by rfl, ?_⟩) hHeld ?_
                        rotate_left
                        · (intro w hSw; (try dsimp only at hSw); go_simp; try (with_reducible rfl))
                        try simp only [Act.put, List.setIfInBounds_toArray, List.set_cons_zero, List.set_cons_succ]
                        refine wpAnyH_take (i := 1) (oi := ⟨_, _, _, _, _, _⟩) (v := ?_) rfl (by kernel_rfl) (by kernel_rfl) (by kernel_rfl) (fun _ _ _ h => h) (Or.inl ⟨by rfl, ?_⟩) hHeld ?_
                        rotate_left
                        · (intro w hSw; (try dsimp only at hSw); go_simp; try (with_reducible rfl))
                        try simp only [Act.put, List.setIfInBounds_toArray, List.set_cons_zero, List.set_cons_succ]
                        refine wpAnyH_take (i := 2) (oi := ⟨_, _, _, _, _, _⟩) (v := ?_) rfl (by kernel_rfl) (by kernel_rfl) (by kernel_rfl) (fun _ _ _ h => h) (Or.inl ⟨by rfl, ?_⟩) hHeld ?_
                        rotate_left
                        · (intro w hSw; (try dsimp only at hSw); go_simp; try (with_reducible rfl))
                        try simp only [Act.put, List.setIfInBounds_toArray, List.set_cons_zero, List.set_cons_succ]
                        refine wpAnyH_take (i := 3) (oi := ⟨_, _, _, _, _, _⟩) (v := ?_) rfl (by kernel_rfl) (by kernel_rfl) (by kernel_rfl) (fun _ _ _ h => h) (Or.inl ⟨by rfl, ?_⟩) hHeld ?_
                        rotate_left
                        · (intro w hSw; (try dsimp only at hSw); go_simp; try (with_reducible rfl))
                        try simp only [Act.put, List.setIfInBounds_toArray, List.set_cons_zero, List.set_cons_succ]
                        refine wpAnyH_take (i := 4) (oi := ⟨_, _, _, _, _, _⟩) (v := ?_) rfl (by kernel_rfl) (by kernel_rfl) (by kernel_rfl) (fun _ _ _ h => h) (Or.inl ⟨by rfl, ?_⟩) hHeld ?_
                        rotate_left
                        · (intro w hSw; (try dsimp only at hSw); go_simp; try (with_reducible rfl))
                        try simp only [Act.put, List.setIfInBounds_toArray, List.set_cons_zero, List.set_cons_succ]
                        refine wpAnyH_take (i := 5) (oi := ⟨_, _, _, _, _, _⟩) (v := ?_) rfl (by kernel_rfl) (by kernel_rfl) (by kernel_rfl) (fun _ _ _ h => h) (Or.inl ⟨by rfl, ?_⟩) hHeld ?_
                        rotate_left
                        · (intro w hSw; (try dsimp only at hSw); go_simp; try (with_reducible rfl))
                        try simp only [Act.put, List.setIfInBounds_toArray, List.set_cons_zero, List.set_cons_succ]
                        refine wpAnyH_take (i := 7) (oi := ⟨_, _, _, _, _, _⟩) (v := ?_) rfl (by kernel_rfl) (by kernel_rfl) (by kernel_rfl) (fun _ _ _ h => h) (Or.inl ⟨by rfl, ?_⟩) hHeld ?_
                        rotate_left
                        · (intro w hSw; (try dsimp only at hSw); go_simp; try (with_reducible rfl))
                        try simp only [Act.put, List.setIfInBounds_toArray, List.set_cons_zero, List.set_cons_succ]
                        refine wpAnyH_take (i := 8) (oi := ⟨_, _, _, _, _, _⟩) (v := ?_) rfl (by kernel_rfl) (by kernel_rfl) (by kernel_rfl) (fun _ _ _ h => h) (Or.inl ⟨by rfl, ?_⟩) hHeld ?_
                        rotate_left
                        · (intro w hSw; (try dsimp only at hSw); obtain ⟨z0, z1, z2, z3, z4, z5⟩ := (hx14V.kept hSw hn14).c6; obtain ⟨v0, v1⟩ := (hx15V.kept hSw hn15).c2; go_simp; try (with_reducible rfl))
                        try simp only [Act.put, List.setIfInBounds_toArray, List.set_cons_zero, List.set_cons_succ]
                        refine wpAnyH_take (i := 9) (oi := ⟨_, _, _, _, _, _⟩) (v := ?_) rfl (by kernel_rfl) (by kernel_rfl) (by kernel_rfl) (fun _ _ _ h => h) (Or.inl ⟨by rfl, ?_⟩) hHeld ?_
                        rotate_left
                        · (intro w hSw; (try dsimp only at hSw); go_simp; try (with_reducible rfl))
                        try simp only [Act.put, List.setIfInBounds_toArray, List.set_cons_zero, List.set_cons_succ]
                        refine wpAnyH_take (i := 10) (oi := ⟨_, _, _, _, _, _⟩) (v := ?_) rfl (by kernel_rfl) (by kernel_rfl) (by kernel_rfl) (fun _ _ _ h => h) (Or.inl ⟨by rfl, ?_⟩) hHeld ?_
                        rotate_left
                        · (intro w hSw; (try dsimp only at hSw); go_simp; try (with_reducible rfl))
                        try simp only [Act.put, List.setIfInBounds_toArray, List.set_cons_zero, List.set_cons_succ]
                        refine wpAnyH_take (i := 11) (oi := ⟨_, _, _, _, _, _⟩) (v := ?_) rfl (by kernel_rfl) (by kernel_rfl) (by kernel_rfl) (fun _ _ _ h => h) (Or.inl ⟨by rfl, ?_⟩) hHeld ?_
                        rotate_left
                        · (intro w hSw; (try dsimp only at hSw); obtain ⟨z0, z1, z2, z3, z4, z5⟩ := (hx14V.kept hSw hn14).c6; obtain ⟨v0, v1⟩ := (hx15V.kept hSw hn15).c2; go_simp; try (with_reducible rfl))
                        try simp only [Act.put, List.setIfInBounds_toArray, List.set_cons_zero, List.set_cons_succ]
                        refine wpAnyH_take (i := 12) (oi := ⟨_, _, _, _, _, _⟩) (v := ?_) rfl (by kernel_rfl) (by kernel_rfl) (by kernel_rfl) (fun _ _ _ h => h) (Or.inl ⟨by rfl, ?_⟩) hHeld ?_
                        rotate_left
                        · (intro w hSw; (try dsimp only at hSw); go_simp; try (with_reducible rfl))
                        try simp only [Act.put, List.setIfInBounds_toArray, List.set_cons_zero, List.set_cons_succ]
                        refine wpAnyH_take (i := 13) (oi := ⟨_, _, _, _, _, _⟩) (v := ?_) rfl (by kernel_rfl) (by kernel_rfl) (by kernel_rfl) (fun _ _ _ h => h) (Or.inl ⟨by rfl, ?_⟩) hHeld ?_
                        rotate_left
                        · (intro w hSw; (try dsimp only at hSw); go_simp; try (with_reducible rfl))
                        try simp only [Act.put, List.setIfInBounds_toArray, List.set_cons_zero, List.set_cons_succ]
                        refine wpAnyH_take (i := 14) (oi := ⟨_, _, _, _, _, _⟩) (v := ?_) rfl (by kernel_rfl) (by kernel_rfl) (by kernel_rfl) (fun _ _ _ h => h) (Or.inl ⟨by rfl, ?_⟩) hHeld ?_
                        rotate_left
                        · (intro w hSw; (try dsimp only at hSw); go_simp; try (with_reducible rfl))
                        try simp only [Act.put, List.setIfInBounds_toArray, List.set_cons_zero, List.set_cons_succ]
                        refine wpAnyH_take (i := 15) (oi := ⟨_, _, _, _, _, _⟩) (v := ?_) rfl (by kernel_rfl) (by kernel_rfl) (by kernel_rfl) (fun _ _ _ h => h) (Or.inl ⟨by rfl, ?_⟩) hHeld ?_
                        rotate_left
                        · (intro w hSw; (try dsimp only at hSw); obtain ⟨z0, z1, z2, z3, z4, z5⟩ := (hx14V.kept hSw hn14).c6; obtain ⟨v0, v1⟩ := (hx15V.kept hSw hn15).c2; go_simp; try (with_reducible rfl))
                        try simp only [Act.put, List.setIfInBounds_toArray, List.set_cons_zero, List.set_cons_succ]
                        refine wpAnyH_take (i := 16) (oi := ⟨_, _, _, _, _, _⟩) (v := ?_) rfl (by kernel_rfl) (by kernel_rfl) (by kernel_rfl) (fun _ _ _ h => h) (Or.inl ⟨by rfl, ?_⟩) hHeld ?_
                        rotate_left
                        · (intro w hSw; (try dsimp only at hSw); go_simp; try (with_reducible rfl))
                        try simp only [Act.put, List.setIfInBounds_toArray, List.set_cons_zero, List.set_cons_succ]
                        refine wpAnyH_ready (rs := [6]) (by kernel_rfl) (by simp) ?_
                        refine AllReadyH.cons (o := ⟨_, _, _, _, _, _⟩) rfl (fun K hK => ?_) AllReadyH.nil
                        obtain ⟨z6, z7, _, _⟩ := own_sp hF2 Hf2.out HFl2.out
                        simp only at z6 z7
                        go_simp
                        clear z6 z7
                        have hHeldN := hHeld
                        refine hK.out _ _ ?_ (fun hHeld2 => ?_)
                        · exact hHeldN
                        clear hK K hHeld hHeldN; have hHeld := hHeld2; clear hHeld2
                        try simp only [Act.put, List.setIfInBounds_toArray, List.set_cons_zero, List.set_cons_succ]
                        refine wpAnyH_take (i := 17) (oi := ⟨_, _, _, _, _, _⟩) (v := ?_) rfl (by kernel_rfl) (by kernel_rfl) (by kernel_rfl) (fun _ _ _ h => h) (Or.inl ⟨by rfl, ?_⟩) hHeld ?_
                        rotate_left
                        · (intro w hSw; (try dsimp only at hSw); go_simp; try (with_reducible rfl))
                        try simp only [Act.put, List.setIfInBounds_toArray, List.set_cons_zero, List.set_cons_succ]
                        refine wpAnyH_take (i := 18) (oi := ⟨_, _, _, _, _, _⟩) (v := ?_) rfl (by kernel_rfl) (by kernel_rfl) (by kernel_rfl) (fun _ _ _ h => h) (Or.inl ⟨by rfl, ?_⟩) hHeld ?_
                        rotate_left
                        · (intro w hSw; (try dsimp only at hSw); go_simp; try (with_reducible rfl))
                        try simp only [Act.put, List.setIfInBounds_toArray, List.set_cons_zero, List.set_cons_succ]
                        refine wpAnyH_take (i := 19) (oi := ⟨_, _, _, _, _, _⟩) (v := ?_) rfl (by kernel_rfl) (by kernel_rfl) (by kernel_rfl) (fun _ _ _ h => h) (Or.inl ⟨by rfl, ?_⟩) hHeld ?_
                        rotate_left
                        · (intro w hSw; (try dsimp only at hSw); go_simp; try (with_reducible rfl))
                        try simp only [Act.put, List.setIfInBounds_toArray, List.set_cons_zero, List.set_cons_succ]
                        refine wpAnyH_ready (rs := [20]) (by kernel_rfl) (by simp) ?_
                        refine AllReadyH.cons (o := ⟨_, _, _, _, _, _⟩) rfl (fun K hK => ?_) AllReadyH.nil
                        obtain ⟨_, _, y4, y5⟩ := own_sp hF2 Hf2.out HFl2.out
                        obtain ⟨hF3, hk3⟩ := own_hi hF2 Hf2.out HFl2.out (min f.hi (t.hi - a4 + a3))
                        simp only [List.set_set] at hF3
                        have HF3 := hide hF3; have Hk3 := hide (hHeld.trans hk3)
                        clear hF3 hk3
                        go_simp
                        refine hK.out _ _ ?_ (fun _ => ?_)
                        · (try dsimp only); exact Hk3.out
                        clear hK K hHeld
                        try simp only [Act.put, List.setIfInBounds_toArray, List.set_cons_zero, List.set_cons_succ]
                        refine wpAnyH_done (by kernel_rfl) ?_ _
                        have hk4 := hkV.trans Hk3.out
                        have hF4 := HF3.out
                        go_wp2_with fail
                        exact ⟨⟨m, _, rfl, by omega, hF4, hide HU3, Hkz.out.trans (hk4.mono fun b _ hb => hb.2)⟩, by simp [intOf]⟩
                      · rw [if_neg c1] at HU2
                        have c1' : t.lo ≤ a5 := by omega
                        obtain ⟨l1, hl1⟩ : ∃ l1, l1 = f.lo := ⟨_, rfl⟩
                        rw [← hl1] at HU2
                        have HU3 := HU2.out
                        have Hl1 := hide hl1
                        clear hl1 HU2
                        have hF2 : Own wx w3.heap.size 24 2 Sp.cells (.slice (some ⟨gf, 0, none⟩) (n + 1) cf) (F.set m ⟨l1, f.hi⟩) := by rw [Hl1.out, set_same Hf0.out]; exact hFW
                        have hkV := hkW; have hx14V := hx14; have hx15V := hx15
                        obtain ⟨V, rfl⟩ : ∃ V, V = wx := ⟨_, rfl⟩
                        have hf2 : (F.set m ⟨l1, f.hi⟩)[m]? = some ⟨l1, f.hi⟩ := List.getElem?_set_self (List.getElem?_eq_some_iff.1 Hf0.out).1
                        have hFl2 : n + 1 = (F.set m ⟨l1, f.hi⟩).length := by rw [List.length_set]; exact HFl.out
                        have HFl2 := hide hFl2
                        obtain ⟨d0', d1', y0', y1'⟩ := own_sp hF2 hf2 hFl2
                        simp only at d0' d1'
                        obtain ⟨z0, z1, z2, z3, z4, z5⟩ := hx14V.c6
                        obtain ⟨v0, v1⟩ := hx15V.c2
                        have Hf2 := hide hf2
                        clear hf2 hFl2 d0 d1 y0 y1 hFW hkW hx14 hx15
                        go_wp2_with fail
                        have hgfV : gf < V.heap.size := by have := hkV.size; omega
                        refine wp_region_held_drew (S := (fun W => Kept (fun b => b ≠ gf) V W)) (by kernel_rfl) (by (try dsimp only); exact Kept.all _ (Below.refl _ _).drew) (fun hHeld => ?_)
                        have hdr : Below V.heap.size V (World.drew V) := (Below.refl _ _).drew
                        generalize World.drew V = Wd26 at hHeld hdr ⊢
                        have hF2 := hF2.bel hdr
                        have hbc := Below.refl Wd26.heap.size Wd26
                        refine wpAnyH_take (i := 0) (oi := ⟨_, _, _, _, _, _⟩) (v := ?_) rfl (by kernel_rfl) (by kernel_rfl) (by kernel_rfl) (fun _ _ _ h => h) (Or.inl ⟨by rfl, ?_⟩) hHeld ?_
                        rotate_left
                        · (intro w hSw; (try dsimp only at hSw); go_simp; try (with_reducible rfl))
                        try simp only [Act.put, List.setIfInBounds_toArray, List.set_cons_zero, List.set_cons_succ]
                        refine wpAnyH_take (i := 1) (oi := ⟨_, _, _, _, _, _⟩) (v := ?_) rfl (by kernel_rfl) (by kernel_rfl) (by kernel_rfl) (fun _ _ _ h => h) (Or.inl ⟨by rfl, ?_⟩) hHeld ?_
                        rotate_left
                        · (intro w hSw; (try dsimp only at hSw); go_simp; try (with_reducible rfl))
                        try simp only [Act.put, List.setIfInBounds_toArray, List.set_cons_zero, List.set_cons_succ]
                        refine wpAnyH_take (i := 2) (oi := ⟨_, _, _, _, _, _⟩) (v := ?_) rfl (by kernel_rfl) (by kernel_rfl) (by kernel_rfl) (fun _ _ _ h => h) (Or.inl ⟨by rfl, ?_⟩) hHeld ?_
                        rotate_left
                        · (intro w hSw; (try dsimp only at hSw); go_simp; try (with_reducible rfl))
                        try simp only [Act.put, List.setIfInBounds_toArray, List.set_cons_zero, List.set_cons_succ]
                        refine wpAnyH_take (i := 3) (oi := ⟨_, _, _, _, _, _⟩) (v := ?_) rfl (by kernel_rfl) (by kernel_rfl) (by kernel_rfl) (fun _ _ _ h => h) (Or.inl ⟨by rfl, ?_⟩) hHeld ?_
                        rotate_left
                        · (intro w hSw; (try dsimp only at hSw); go_simp; try (with_reducible rfl))
                        try simp only [Act.put, List.setIfInBounds_toArray, List.set_cons_zero, List.set_cons_succ]
                        refine wpAnyH_take (i := 4) (oi := ⟨_, _, _, _, _, _⟩) (v := ?_) rfl (by kernel_rfl) (by kernel_rfl) (by kernel_rfl) (fun _ _ _ h => h) (Or.inl ⟨by rfl, ?_⟩) hHeld ?_
                        rotate_left
                        · (intro w hSw; (try dsimp only at hSw); go_simp; try (with_reducible rfl))
                        try simp only [Act.put, List.setIfInBounds_toArray, List.set_cons_zero, List.set_cons_succ]
                        refine wpAnyH_take (i := 5) (oi := ⟨_, _, _, _, _, _⟩) (v := ?_) rfl (by kernel_rfl) (by kernel_rfl) (by kernel_rfl) (fun _ _ _ h => h) (Or.inl ⟨by rfl, ?_⟩) hHeld ?_
                        rotate_left
                        · (intro w hSw; (try dsimp only at hSw); go_simp; try (with_reducible rfl))
                        try simp only [Act.put, List.setIfInBounds_toArray, List.set_cons_zero, List.set_cons_succ]
                        refine wpAnyH_take (i := 7) (oi := ⟨_, _, _, _, _, _⟩) (v := ?_) rfl (by kernel_rfl) (by kernel_rfl) (by kernel_rfl) (fun _ _ _ h => h) (Or.inl ⟨by rfl, ?_⟩) hHeld ?_
                        rotate_left
                        · (intro w hSw; (try dsimp only at hSw); go_simp; try (with_reducible rfl))
                        try simp only [Act.put, List.setIfInBounds_toArray, List.set_cons_zero, List.set_cons_succ]
                        refine wpAnyH_take (i := 8) (oi := ⟨_, _, _, _, _, _⟩) (v := ?_) rfl (by kernel_rfl) (by kernel_rfl) (by kernel_rfl) (fun _ _ _ h => h) (Or.inl ⟨by rfl, ?_⟩) hHeld ?_
                        rotate_left
                        · (intro w hSw; (try dsimp only at hSw); obtain ⟨z0, z1, z2, z3, z4, z5⟩ := (hx14V.kept hSw hn14).c6; obtain ⟨v0, v1⟩ := (hx15V.kept hSw hn15).c2; go_simp; try (with_reducible rfl))
                        try simp only [Act.put, List.setIfInBounds_toArray, List.set_cons_zero, List.set_cons_succ]
                        refine wpAnyH_take (i := 9) (oi := ⟨_, _, _, _, _, _⟩) (v := ?_) rfl (by kernel_rfl) (by kernel_rfl) (by kernel_rfl) (fun _ _ _ h => h) (Or.inl ⟨by rfl, ?_⟩) hHeld ?_
                        rotate_left
                        · (intro w hSw; (try dsimp only at hSw); go_simp; try (with_reducible rfl))
                        try simp only [Act.put, List.setIfInBounds_toArray, List.set_cons_zero, List.set_cons_succ]
                        refine wpAnyH_take (i := 10) (oi := ⟨_, _, _, _, _, _⟩) (v := ?_) rfl (by kernel_rfl) (by kernel_rfl) (by kernel_rfl) (fun _ _ _ h => h) (Or.inl ⟨by rfl, ?_⟩) hHeld ?_
                        rotate_left
                        · (intro w hSw; (try dsimp only at hSw); go_simp; try (with_reducible rfl))
                        try simp only [Act.put, List.setIfInBounds_toArray, List.set_cons_zero, List.set_cons_succ]
                        refine wpAnyH_take (i := 11) (oi := ⟨_, _, _, _, _, _⟩) (v := ?_) rfl (by kernel_rfl) (by kernel_rfl) (by kernel_rfl) (fun _ _ _ h => h) (Or.inl ⟨by rfl, ?_⟩) hHeld ?_
                        rotate_left
                        · (intro w hSw; (try dsimp only at hSw); obtain ⟨z0, z1, z2, z3, z4, z5⟩ := (hx14V.kept hSw hn14).c6; obtain ⟨v0, v1⟩ := (hx15V.kept hSw hn15).c2; go_simp; try (with_reducible rfl))
                        try simp only [Act.put, List.setIfInBounds_toArray, List.set_cons_zero, List.set_cons_succ]
                        refine wpAnyH_take (i := 12) (oi := ⟨_, _, _, _, _, _⟩) (v := ?_) rfl (by kernel_rfl) (by kernel_rfl) (by kernel_rfl) (fun _ _ _ h => h) (Or.inl ⟨by rfl, ?_⟩) hHeld ?_
                        rotate_left
                        · (intro w hSw; (try dsimp only at hSw); go_simp; try (with_reducible rfl))
                        try simp only [Act.put, List.setIfInBounds_toArray, List.set_cons_zero, List.set_cons_succ]
                        refine wpAnyH_take (i := 13) (oi := ⟨_, _, _, _, _, _⟩) (v := ?_) rfl (by kernel_rfl) (by kernel_rfl) (by kernel_rfl) (fun _ _ _ h => h) (Or.inl ⟨by rfl, ?_⟩) hHeld ?_
                        rotate_left
                        · (intro w hSw; (try dsimp only at hSw); go_simp; try (with_reducible rfl))
                        try simp only [Act.put, List.setIfInBounds_toArray, List.set_cons_zero, List.set_cons_succ]
                        refine wpAnyH_take (i := 14) (oi := ⟨_, _, _, _, _, _⟩) (v := ?_) rfl (by kernel_rfl) (by kernel_rfl) (by kernel_rfl) (fun _ _ _ h => h) (Or.inl ⟨by rfl, ?_⟩) hHeld ?_
                        rotate_left
                        · (intro w hSw; (try dsimp only at hSw); go_simp; try (with_reducible rfl))
                        try simp only [Act.put, List.setIfInBounds_toArray, List.set_cons_zero, List.set_cons_succ]
                        refine wpAnyH_take (i := 15) (oi := ⟨_, _, _, _, _, _⟩) (v := ?_) rfl (by kernel_rfl) (by kernel_rfl) (by kernel_rfl) (fun _ _ _ h => h) (Or.inl ⟨by rfl, ?_⟩) hHeld ?_
                        rotate_left
                        · (intro w hSw; (try dsimp only at hSw); obtain ⟨z0, z1, z2, z3, z4, z5⟩ := (hx14V.kept hSw hn14).c6; obtain ⟨v0, v1⟩ := (hx15V.kept hSw hn15).c2; go_simp; try (with_reducible rfl))
                        try simp only [Act.put, List.setIfInBounds_toArray, List.set_cons_zero, List.set_cons_succ]
                        refine wpAnyH_take (i := 16) (oi := ⟨_, _, _, _, _, _⟩) (v := ?_) rfl (by kernel_rfl) (by kernel_rfl) (by kernel_rfl) (fun _ _ _ h => h) (Or.inl ⟨by rfl, ?_⟩) hHeld ?_
                        rotate_left
                        · (intro w hSw; (try dsimp only at hSw); go_simp; try (with_reducible rfl))
                        try simp only [Act.put, List.setIfInBounds_toArray, List.set_cons_zero, List.set_cons_succ]
                        refine wpAnyH_ready (rs := [6]) (by kernel_rfl) (by simp) ?_
                        refine AllReadyH.cons (o := ⟨_, _, _, _, _, _⟩) rfl (fun K hK => ?_) AllReadyH.nil
                        obtain ⟨z6, z7, _, _⟩ := own_sp hF2 Hf2.out HFl2.out
                        simp only at z6 z7
                        go_simp
                        clear z6 z7
                        have hHeldN := hHeld
                        refine hK.out _ _ ?_ (fun hHeld2 => ?_)
                        · exact hHeldN
                        clear hK K hHeld hHeldN; have hHeld := hHeld2; clear hHeld2
                        try simp only [Act.put, List.setIfInBounds_toArray, List.set_cons_zero, List.set_cons_succ]
                        refine wpAnyH_take (i := 17) (oi := ⟨_, _, _, _, _, _⟩) (v := ?_) rfl (by kernel_rfl) (by kernel_rfl) (by kernel_rfl) (fun _ _ _ h => h) (Or.inl ⟨by rfl, ?_⟩) hHeld ?_
                        rotate_left
                        · (intro w hSw; (try dsimp only at hSw); go_simp; try (with_reducible rfl))
                        try simp only [Act.put, List.setIfInBounds_toArray, List.set_cons_zero, List.set_cons_succ]
                        refine wpAnyH_take (i := 18) (oi := ⟨_, _, _, _, _, _⟩) (v := ?_) rfl (by kernel_rfl) (by kernel_rfl) (by kernel_rfl) (fun _ _ _ h => h) (Or.inl ⟨by rfl, ?_⟩) hHeld ?_
                        rotate_left
                        · (intro w hSw; (try dsimp only at hSw); go_simp; try (with_reducible rfl))
                        try simp only [Act.put, List.setIfInBounds_toArray, List.set_cons_zero, List.set_cons_succ]
                        refine wpAnyH_take (i := 19) (oi := ⟨_, _, _, _, _, _⟩) (v := ?_) rfl (by kernel_rfl) (by kernel_rfl) (by kernel_rfl) (fun _ _ _ h => h) (Or.inl ⟨by rfl, ?_⟩) hHeld ?_
                        rotate_left
                        · (intro w hSw; (try dsimp only at hSw); go_simp; try (with_reducible rfl))
                        try simp only [Act.put, List.setIfInBounds_toArray, List.set_cons_zero, List.set_cons_succ]
                        refine wpAnyH_ready (rs := [20]) (by kernel_rfl) (by simp) ?_
                        refine AllReadyH.cons (o := ⟨_, _, _, _, _, _⟩) rfl (fun K hK => ?_) AllReadyH.nil
                        obtain ⟨_, _, y4, y5⟩ := own_sp hF2 Hf2.out HFl2.out
                        obtain ⟨hF3, hk3⟩ := own_hi hF2 Hf2.out HFl2.out (min f.hi (t.hi - a4 + a3))
                        simp only [List.set_set] at hF3
                        have HF3 := hide hF3; have Hk3 := hide (hHeld.trans hk3)
                        clear hF3 hk3
                        go_simp
                        refine hK.out _ _ ?_ (fun _ => ?_)
                        · (try dsimp only); exact Hk3.out
                        clear hK K hHeld
                        try simp only [Act.put, List.setIfInBounds_toArray, List.set_cons_zero, List.set_cons_succ]
                        refine wpAnyH_done (by kernel_rfl) ?_ _
                        have hk4 := hkV.trans Hk3.out
                        have hF4 := HF3.out
                        go_wp2_with fail
                        exact ⟨⟨m, _, rfl, by omega, hF4, hide HU3, Hkz.out.trans (hk4.mono fun b _ hb => hb.2)⟩, by simp [intOf]⟩
                    · rw [if_neg c2] at HU2
                      have c2' : max 0 (a0 - a3) + a4 ≤ t.hi := by omega
                      by_cases c1 : a5 < t.lo
                      · rw [if_pos c1] at HU2
                        obtain ⟨l1, hl1⟩ : ∃ l1, l1 = max f.lo (t.lo - a5 + a2) := ⟨_, rfl⟩
                        rw [← hl1] at HU2
                        have HU3 := HU2.out
                        have Hl1 := hide hl1
                        clear hl1 HU2
                        go_wp2_with fail
                        refine wp_region_held_drew (S := (fun W => Kept (fun b => b ≠ gf) wx W)) (by kernel_rfl) (by (try dsimp only); exact Kept.all _ (Below.refl _ _).drew) (fun hHeld => ?_)
                        have hdr : Below wx.heap.size wx (World.drew wx) := (Below.refl _ _).drew
                        generalize World.drew wx = Wd24 at hHeld hdr ⊢
                        have hFW := hFW.bel hdr
                        have hbc := Below.refl Wd24.heap.size Wd24
                        refine wpAnyH_take (i := 0) (oi := ⟨_, _, _, _, _, _⟩) (v := ?_) rfl (by kernel_rfl) (by kernel_rfl) (by kernel_rfl) (fun _ _ _ h => h) (Or.inl ⟨by rfl, ?_⟩) hHeld ?_
                        rotate_left
                        · (intro w hSw; (try dsimp only at hSw); go_simp; try (with_reducible rfl))
                        try simp only [Act.put, List.setIfInBounds_toArray, List.set_cons_zero, List.set_cons_succ]
                        refine wpAnyH_take (i := 1) (oi := ⟨_, _, _, _, _, _⟩) (v := ?_) rfl (by kernel_rfl) (by kernel_rfl) (by kernel_rfl) (fun _ _ _ h => h) (Or.inl ⟨by rfl, ?_⟩) hHeld ?_
                        rotate_left
                        · (intro w hSw; (try dsimp only at hSw); go_simp; try (with_reducible rfl))
                        try simp only [Act.put, List.setIfInBounds_toArray, List.set_cons_zero, List.set_cons_succ]
                        refine wpAnyH_take (i := 2) (oi := ⟨_, _, _, _, _, _⟩) (v := ?_) rfl (by kernel_rfl) (by kernel_rfl) (by kernel_rfl) (fun _ _ _ h => h) (Or.inl ⟨by rfl, ?_⟩) hHeld ?_
                        rotate_left
                        · (intro w hSw; (try dsimp only at hSw); go_simp; try (with_reducible rfl))
                        try simp only [Act.put, List.setIfInBounds_toArray, List.set_cons_zero, List.set_cons_succ]
                        refine wpAnyH_take (i := 3) (oi := ⟨_, _, _, _, _, _⟩) (v := ?_) rfl (by kernel_rfl) (by kernel_rfl) (by kernel_rfl) (fun _ _ _ h => h) (Or.inl ⟨by rfl, ?_⟩) hHeld ?_
                        rotate_left
                        · (intro w hSw; (try dsimp only at hSw); go_simp; try (with_reducible rfl))
                        try simp only [Act.put, List.setIfInBounds_toArray, List.set_cons_zero, List.set_cons_succ]
                        refine wpAnyH_take (i := 4) (oi := ⟨_, _, _, _, _, _⟩) (v := ?_) rfl (by kernel_rfl) (by kernel_rfl) (by kernel_rfl) (fun _ _ _ h => h) (Or.inl ⟨by rfl, ?_⟩) hHeld ?_
                        rotate_left
                        · (intro w hSw; (try dsimp only at hSw); go_simp; try (with_reducible rfl))
                        try simp only [Act.put, List.setIfInBounds_toArray, List.set_cons_zero, List.set_cons_succ]
                        refine wpAnyH_take (i := 5) (oi := ⟨_, _, _, _, _, _⟩) (v := ?_) rfl (by kernel_rfl) (by kernel_rfl) (by kernel_rfl) (fun _ _ _ h => h) (Or.inl ⟨by rfl, ?_⟩) hHeld ?_
                        rotate_left
                        · (intro w hSw; (try dsimp only at hSw); go_simp; try (with_reducible rfl))
                        try simp only [Act.put, List.setIfInBounds_toArray, List.set_cons_zero, List.set_cons_succ]
                        refine wpAnyH_take (i := 7) (oi := ⟨_, _, _, _, _, _⟩) (v := ?_) rfl (by kernel_rfl) (by kernel_rfl) (by kernel_rfl) (fun _ _ _ h => h) (Or.inl ⟨by rfl, ?_⟩) hHeld ?_
                        rotate_left
                        · (intro w hSw; (try dsimp only at hSw); go_simp; try (with_reducible rfl))
                        try simp only [Act.put, List.setIfInBounds_toArray, List.set_cons_zero, List.set_cons_succ]
                        refine wpAnyH_take (i := 8) (oi := ⟨_, _, _, _, _, _⟩) (v := ?_) rfl (by kernel_rfl) (by kernel_rfl) (by kernel_rfl) (fun _ _ _ h => h) (Or.inl ⟨by rfl, ?_⟩) hHeld ?_
                        rotate_left
                        · (intro w hSw; (try dsimp only at hSw); obtain ⟨z0, z1, z2, z3, z4, z5⟩ := (hx14.kept hSw hn14).c6; obtain ⟨v0, v1⟩ := (hx15.kept hSw hn15).c2; go_simp; try (with_reducible rfl))
                        try simp only [Act.put, List.setIfInBounds_toArray, List.set_cons_zero, List.set_cons_succ]
                        refine wpAnyH_take (i := 9) (oi := ⟨_, _, _, _, _, _⟩) (v := ?_) rfl (by kernel_rfl) (by kernel_rfl) (by kernel_rfl) (fun _ _ _ h => h) (Or.inl ⟨by rfl, ?_⟩) hHeld ?_
                        rotate_left
                        · (intro w hSw; (try dsimp only at hSw); go_simp; try (with_reducible rfl))
                        try simp only [Act.put, List.setIfInBounds_toArray, List.set_cons_zero, List.set_cons_succ]
                        refine wpAnyH_take (i := 10) (oi := ⟨_, _, _, _, _, _⟩) (v := ?_) rfl (by kernel_rfl) (by kernel_rfl) (by kernel_rfl) (fun _ _ _ h => h) (Or.inl ⟨by rfl, ?_⟩) hHeld ?_
                        rotate_left
                        · (intro w hSw; (try dsimp only at hSw); go_simp; try (with_reducible rfl))
                        try simp only [Act.put, List.setIfInBounds_toArray, List.set_cons_zero, List.set_cons_succ]
                        refine wpAnyH_take (i := 11) (oi := ⟨_, _, _, _, _, _⟩) (v := ?_) rfl (by kernel_rfl) (by kernel_rfl) (by kernel_rfl) (fun _ _ _ h => h) (Or.inl ⟨by rfl, ?_⟩) hHeld ?_
                        rotate_left
                        · (intro w hSw; (try dsimp only at hSw); obtain ⟨z0, z1, z2, z3, z4, z5⟩ := (hx14.kept hSw hn14).c6; obtain ⟨v0, v1⟩ := (hx15.kept hSw hn15).c2; go_simp; try (with_reducible rfl))
                        try simp only [Act.put, List.setIfInBounds_toArray, List.set_cons_zero, List.set_cons_succ]
                        refine wpAnyH_take (i := 12) (oi := ⟨_, _, _, _, _, _⟩) (v := ?_) rfl (by kernel_rfl) (by kernel_rfl) (by kernel_rfl) (fun _ _ _ h => h) (Or.inl ⟨by rfl, ?_⟩) hHeld ?_
                        rotate_left
                        · (intro w hSw; (try dsimp only at hSw); go_simp; try (with_reducible rfl))
                        try simp only [Act.put, List.setIfInBounds_toArray, List.set_cons_zero, List.set_cons_succ]
                        refine wpAnyH_take (i := 13) (oi := ⟨_, _, _, _, _, _⟩) (v := ?_) rfl (by kernel_rfl) (by kernel_rfl) (by kernel_rfl) (fun _ _ _ h => h) (Or.inl ⟨by rfl, ?_⟩) hHeld ?_
                        rotate_left
                        · (intro w hSw; (try dsimp only at hSw); go_simp; try (with_reducible rfl))
                        try simp only [Act.put, List.setIfInBounds_toArray, List.set_cons_zero, List.set_cons_succ]
                        refine wpAnyH_take (i := 14) (oi := ⟨_, _, _, _, _, _⟩) (v := ?_) rfl (by kernel_rfl) (by kernel_rfl) (by kernel_rfl) (fun _ _ _ h => h) (Or.inl ⟨by rfl, ?_⟩) hHeld ?_
                        rotate_left
                        · (intro w hSw; (try dsimp only at hSw); go_simp; try (with_reducible rfl))
                        try simp only [Act.put, List.setIfInBounds_toArray, List.set_cons_zero, List.set_cons_succ]
                        refine wpAnyH_take (i := 15) (oi := ⟨_, _, _, _, _, _⟩) (v := ?_) rfl (by kernel_rfl) (by kernel_rfl) (by kernel_rfl) (fun _ _ _ h => h) (Or.inl ⟨by rfl, ?_⟩) hHeld ?_
                        rotate_left
                        · (intro w hSw; (try dsimp only at hSw); obtain ⟨z0, z1, z2, z3, z4, z5⟩ := (hx14.kept hSw hn14).c6; obtain ⟨v0, v1⟩ := (hx15.kept hSw hn15).c2; go_simp; try (with_reducible rfl))
                        try simp only [Act.put, List.setIfInBounds_toArray, List.set_cons_zero, List.set_cons_succ]
                        refine wpAnyH_take (i := 16) (oi := ⟨_, _, _, _, _, _⟩) (v := ?_) rfl (by kernel_rfl) (by kernel_rfl) (by kernel_rfl) (fun _ _ _ h => h) (Or.inl ⟨by rfl, ?_⟩) hHeld ?_
                        rotate_left
                        · (intro w hSw; (try dsimp only at hSw); go_simp; try (with_reducible rfl))
                        try simp only [Act.put, List.setIfInBounds_toArray, List.set_cons_zero, List.set_cons_succ]
                        refine wpAnyH_ready (rs := [6]) (by kernel_rfl) (by simp) ?_
                        refine AllReadyH.cons (o := ⟨_, _, _, _, _, _⟩) rfl (fun K hK => ?_) AllReadyH.nil
                        obtain ⟨z6, z7, _, _⟩ := own_sp hFW Hf0.out HFl.out
                        go_simp
                        clear z6 z7
                        have hHeldN := hHeld
                        refine hK.out _ _ ?_ (fun hHeld2 => ?_)
                        · exact hHeldN
                        clear hK K hHeld hHeldN; have hHeld := hHeld2; clear hHeld2
                        try simp only [Act.put, List.setIfInBounds_toArray, List.set_cons_zero, List.set_cons_succ]
                        refine wpAnyH_take (i := 17) (oi := ⟨_, _, _, _, _, _⟩) (v := ?_) rfl (by kernel_rfl) (by kernel_rfl) (by kernel_rfl) (fun _ _ _ h => h) (Or.inl ⟨by rfl, ?_⟩) hHeld ?_
                        rotate_left
                        · (intro w hSw; (try dsimp only at hSw); go_simp; try (with_reducible rfl))
                        try simp only [Act.put, List.setIfInBounds_toArray, List.set_cons_zero, List.set_cons_succ]
                        refine wpAnyH_take (i := 18) (oi := ⟨_, _, _, _, _, _⟩) (v := ?_) rfl (by kernel_rfl) (by kernel_rfl) (by kernel_rfl) (fun _ _ _ h => h) (Or.inl ⟨by rfl, ?_⟩) hHeld ?_
                        rotate_left
                        · (intro w hSw; (try dsimp only at hSw); go_simp; try (with_reducible rfl))
                        try simp only [Act.put, List.setIfInBounds_toArray, List.set_cons_zero, List.set_cons_succ]
                        refine wpAnyH_take (i := 19) (oi := ⟨_, _, _, _, _, _⟩) (v := ?_) rfl (by kernel_rfl) (by kernel_rfl) (by kernel_rfl) (fun _ _ _ h => h) (Or.inl ⟨by rfl, ?_⟩) hHeld ?_
                        rotate_left
                        · (intro w hSw; (try dsimp only at hSw); go_simp; try (with_reducible rfl))
                        try simp only [Act.put, List.setIfInBounds_toArray, List.set_cons_zero, List.set_cons_succ]
                        refine wpAnyH_ready (rs := [20]) (by kernel_rfl) (by simp) ?_
                        refine AllReadyH.cons (o := ⟨_, _, _, _, _, _⟩) rfl (fun K hK => ?_) AllReadyH.nil
                        obtain ⟨_, _, y4, y5⟩ := own_sp hFW Hf0.out HFl.out
                        obtain ⟨hF1, hk1⟩ := own_lo hFW Hf0.out HFl.out (max f.lo (t.lo - a5 + a2))
                        have HF1 := hide hF1; have Hk1 := hide (hHeld.trans hk1)
                        clear hF1 hk1
                        go_simp
                        refine hK.out _ _ ?_ (fun _ => ?_)
                        · (try dsimp only); exact Hk1.out
                        clear hK K hHeld
                        try simp only [Act.put, List.setIfInBounds_toArray, List.set_cons_zero, List.set_cons_succ]
                        refine wpAnyH_done (by kernel_rfl) ?_ _
                        rw [← Hl1.out]
                        have hF2 := HF1.out; have hk1 := Hk1.out
                        rw [← Hl1.out] at hF2 hk1
                        have hk2 := hk1
                        have hkV := hkW.trans hk2
                        have hx14V := hx14.kept hk2 hn14
                        have hx15V := hx15.kept hk2 hn15
                        generalize Wd24.setCell ⟨gf, m * 2, none⟩ (.int .i64 l1) = V at hkV hF2 hx14V hx15V ⊢
                        clear HF1 Hk1 hk1 hk2
                        have hf2 : (F.set m ⟨l1, f.hi⟩)[m]? = some ⟨l1, f.hi⟩ := List.getElem?_set_self (List.getElem?_eq_some_iff.1 Hf0.out).1
                        have hFl2 : n + 1 = (F.set m ⟨l1, f.hi⟩).length := by rw [List.length_set]; exact HFl.out
                        have HFl2 := hide hFl2
                        obtain ⟨d0', d1', y0', y1'⟩ := own_sp hF2 hf2 hFl2
                        simp only at d0' d1'
                        obtain ⟨z0, z1, z2, z3, z4, z5⟩ := hx14V.c6
                        obtain ⟨v0, v1⟩ := hx15V.c2
                        have Hf2 := hide hf2
                        clear hf2 hFl2 d0 d1 y0 y1 hFW hkW hx14 hx15
                        go_wp2_with fail
                        exact ⟨⟨m, _, rfl, by omega, hF2, hide HU3, Hkz.out.trans (hkV.mono fun b _ hb => hb.2)⟩, by simp [intOf]⟩
                      · rw [if_neg c1] at HU2
                        have c1' : t.lo ≤ a5 := by omega
                        obtain ⟨l1, hl1⟩ : ∃ l1, l1 = f.lo := ⟨_, rfl⟩
                        rw [← hl1] at HU2
                        have HU3 := HU2.out
                        have Hl1 := hide hl1
                        clear hl1 HU2
                        have hF2 : Own wx w3.heap.size 24 2 Sp.cells (.slice (some ⟨gf, 0, none⟩) (n + 1) cf) (F.set m ⟨l1, f.hi⟩) := by rw [Hl1.out, set_same Hf0.out]; exact hFW
                        have hkV := hkW; have hx14V := hx14; have hx15V := hx15
                        obtain ⟨V, rfl⟩ : ∃ V, V = wx := ⟨_, rfl⟩
                        have hf2 : (F.set m ⟨l1, f.hi⟩)[m]? = some ⟨l1, f.hi⟩ := List.getElem?_set_self (List.getElem?_eq_some_iff.1 Hf0.out).1
                        have hFl2 : n + 1 = (F.set m ⟨l1, f.hi⟩).length := by rw [List.length_set]; exact HFl.out
                        have HFl2 := hide hFl2
                        obtain ⟨d0', d1', y0', y1'⟩ := own_sp hF2 hf2 hFl2
                        simp only at d0' d1'
                        obtain ⟨z0, z1, z2, z3, z4, z5⟩ := hx14V.c6
                        obtain ⟨v0, v1⟩ := hx15V.c2
                        have Hf2 := hide hf2
                        clear hf2 hFl2 d0 d1 y0 y1 hFW hkW hx14 hx15
                        go_wp2_with fail
                        exact ⟨⟨m, _, rfl, by omega, hF2, hide HU3, Hkz.out.trans (hkV.mono fun b _ hb => hb.2)⟩, by simp [intOf]⟩
              · have hlt2 : f.hi < f.lo := by unfold okS at hok; omega
                have hnone : fitS g l s = none := by
                  unfold fitS
                  rw [← Hn.out]
                  exact flowsF_torn n g _ s (by rw [← Hn.out]; exact Nat.le_refl _) (by rw [← Hfe.out]; exact hok)
                have Hnone := hide hnone
                clear hok hnone
                go_wp2_with fail
                refine wp_region_held_drew (S := (fun W => Below wr.heap.size wr W)) (by kernel_rfl) (by (try dsimp only); exact (Below.refl _ _).drew) (fun hHeld => ?_)
                generalize World.drew wr = Wd17 at hHeld ⊢
                have hbc := Below.refl Wd17.heap.size Wd17
                refine wpAnyH_take (i := 0) (oi := ⟨_, _, _, _, _, _⟩) (v := ?_) rfl (by kernel_rfl) (by kernel_rfl) (by kernel_rfl) (fun _ _ _ h => h) (Or.inl ⟨by rfl, ?_⟩) hHeld ?_
                rotate_left
                · (intro w hSw; (try dsimp only at hSw); go_simp; try (with_reducible rfl))
                try simp only [Act.put, List.setIfInBounds_toArray, List.set_cons_zero, List.set_cons_succ]
                refine wpAnyH_take (i := 1) (oi := ⟨_, _, _, _, _, _⟩) (v := ?_) rfl (by kernel_rfl) (by kernel_rfl) (by kernel_rfl) (fun _ _ _ h => h) (Or.inl ⟨by rfl, ?_⟩) hHeld ?_
                rotate_left
                · (intro w hSw; (try dsimp only at hSw); go_simp; try (with_reducible rfl))
                try simp only [Act.put, List.setIfInBounds_toArray, List.set_cons_zero, List.set_cons_succ]
                refine wpAnyH_take (i := 2) (oi := ⟨_, _, _, _, _, _⟩) (v := ?_) rfl (by kernel_rfl) (by kernel_rfl) (by kernel_rfl) (fun _ _ _ h => h) (Or.inl ⟨by rfl, ?_⟩) hHeld ?_
                rotate_left
                · (intro w hSw; (try dsimp only at hSw); go_simp; try (with_reducible rfl))
                try simp only [Act.put, List.setIfInBounds_toArray, List.set_cons_zero, List.set_cons_succ]
                refine wpAnyH_take (i := 3) (oi := ⟨_, _, _, _, _, _⟩) (v := ?_) rfl (by kernel_rfl) (by kernel_rfl) (by kernel_rfl) (fun _ _ _ h => h) (Or.inl ⟨by rfl, ?_⟩) hHeld ?_
                rotate_left
                · (intro w hSw; (try dsimp only at hSw); go_simp; try (with_reducible rfl))
                try simp only [Act.put, List.setIfInBounds_toArray, List.set_cons_zero, List.set_cons_succ]
                refine wpAnyH_take (i := 4) (oi := ⟨_, _, _, _, _, _⟩) (v := ?_) rfl (by kernel_rfl) (by kernel_rfl) (by kernel_rfl) (fun _ _ _ h => h) (Or.inl ⟨by rfl, ?_⟩) hHeld ?_
                rotate_left
                · (intro w hSw; (try dsimp only at hSw); go_simp; try (with_reducible rfl))
                try simp only [Act.put, List.setIfInBounds_toArray, List.set_cons_zero, List.set_cons_succ]
                refine wpAnyH_take (i := 5) (oi := ⟨_, _, _, _, _, _⟩) (v := ?_) rfl (by kernel_rfl) (by kernel_rfl) (by kernel_rfl) (fun _ _ _ h => h) (Or.inl ⟨by rfl, ?_⟩) hHeld ?_
                rotate_left
                · (intro w hSw; (try dsimp only at hSw); have d0 := (hSw.cell (p := ⟨gf, n * 2, none⟩) hgfw).trans d0; have d1 := (hSw.cell (p := ⟨gf, n * 2 + 1, none⟩) hgfw).trans d1; go_simp; try (with_reducible rfl))
                try simp only [Act.put, List.setIfInBounds_toArray, List.set_cons_zero, List.set_cons_succ]
                refine wpAnyH_take (i := 6) (oi := ⟨_, _, _, _, _, _⟩) (v := ?_) rfl (by kernel_rfl) (by kernel_rfl) (by kernel_rfl) (fun _ _ _ h => h) (Or.inl ⟨by rfl, ?_⟩) hHeld ?_
                rotate_left
                · (intro w hSw; (try dsimp only at hSw); go_simp; try (with_reducible rfl))
                try simp only [Act.put, List.setIfInBounds_toArray, List.set_cons_zero, List.set_cons_succ]
                refine wpAnyH_take (i := 7) (oi := ⟨_, _, _, _, _, _⟩) (v := ?_) rfl (by kernel_rfl) (by kernel_rfl) (by kernel_rfl) (fun _ _ _ h => h) (Or.inl ⟨by rfl, ?_⟩) hHeld ?_
                rotate_left
                · (intro w hSw; (try dsimp only at hSw); go_simp; try (with_reducible rfl))
                try simp only [Act.put, List.setIfInBounds_toArray, List.set_cons_zero, List.set_cons_succ]
                refine wpAnyH_take (i := 8) (oi := ⟨_, _, _, _, _, _⟩) (v := ?_) rfl (by kernel_rfl) (by kernel_rfl) (by kernel_rfl) (fun _ _ _ h => h) (Or.inl ⟨by rfl, ?_⟩) hHeld ?_
                rotate_left
                · (intro w hSw; (try dsimp only at hSw); go_simp; try (with_reducible rfl))
                try simp only [Act.put, List.setIfInBounds_toArray, List.set_cons_zero, List.set_cons_succ]
                refine wpAnyH_take (i := 9) (oi := ⟨_, _, _, _, _, _⟩) (v := ?_) rfl (by kernel_rfl) (by kernel_rfl) (by kernel_rfl) (fun _ _ _ h => h) (Or.inl ⟨by rfl, ?_⟩) hHeld ?_
                rotate_left
                · (intro w hSw; (try dsimp only at hSw); go_simp; try (with_reducible rfl))
                try simp only [Act.put, List.setIfInBounds_toArray, List.set_cons_zero, List.set_cons_succ]
                refine wpAnyH_take (i := 10) (oi := ⟨_, _, _, _, _, _⟩) (v := ?_) rfl (by kernel_rfl) (by kernel_rfl) (by kernel_rfl) (fun _ _ _ h => h) (Or.inl ⟨by rfl, ?_⟩) hHeld ?_
                rotate_left
                · (intro w hSw; (try dsimp only at hSw); go_simp; try (with_reducible rfl))
                try simp only [Act.put, List.setIfInBounds_toArray, List.set_cons_zero, List.set_cons_succ]
                refine wpAnyH_take (i := 11) (oi := ⟨_, _, _, _, _, _⟩) (v := ?_) rfl (by kernel_rfl) (by kernel_rfl) (by kernel_rfl) (fun _ _ _ h => h) (Or.inl ⟨by rfl, ?_⟩) hHeld ?_
                rotate_left
                · (intro w hSw; (try dsimp only at hSw); have d0 := (hSw.cell (p := ⟨gf, n * 2, none⟩) hgfw).trans d0; have d1 := (hSw.cell (p := ⟨gf, n * 2 + 1, none⟩) hgfw).trans d1; go_simp; try (with_reducible rfl))
                try simp only [Act.put, List.setIfInBounds_toArray, List.set_cons_zero, List.set_cons_succ]
                refine wpAnyH_take (i := 12) (oi := ⟨_, _, _, _, _, _⟩) (v := ?_) rfl (by kernel_rfl) (by kernel_rfl) (by kernel_rfl) (fun _ _ _ h => h) (Or.inl ⟨by rfl, ?_⟩) hHeld ?_
                rotate_left
                · (intro w hSw; (try dsimp only at hSw); go_simp; try (with_reducible rfl))
                try simp only [Act.put, List.setIfInBounds_toArray, List.set_cons_zero, List.set_cons_succ]
                refine wpAnyH_done (by kernel_rfl) ?_ _
                go_wp2_with fail
                go_ret2
                have hBf := hB3.trans ((Hb.out.trans (hHeld.mono hszb)).mono hB3.size)
                exact ⟨_, by rw [Hnone.out]; rfl, by rw [Hnone.out]; exact Own.nil _ _ _ _ _, hBf⟩
end Go.Proofs.Ytkmocikcohhdoaa
