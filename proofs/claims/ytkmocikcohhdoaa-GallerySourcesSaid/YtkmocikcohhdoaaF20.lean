/- Gallery: the reference's Flows, by contract. -/
import Derived.Test.YtkmocikcohhdoaaF19
set_option linter.unusedVariables false
set_option linter.unusedSimpArgs false
namespace Go.Proofs.Ytkmocikcohhdoaa
open Go.RowKit Go.Shelf
attribute [local go_sem] ite_min ite_max ite_max0
set_option maxHeartbeats 4000000 in
set_option maxRecDepth 100000 in
theorem rflows_any (A A' : Option Addr) (g : List Rc) (s : Sp) (l : List Ga) (n c n' c' : Nat) (w : World) (hn : n = g.length) (hm : n ≤ 9223372036854775807) (hx : Rd w w.heap.size Rc.cells A g)
    (hn' : n' = l.length) (hm' : n' ≤ 9223372036854775807) (hx' : Rd w w.heap.size Ga.cells A' l) :
    Calls Try.prog 22 #[.slice A n c, .agg #[.int .i64 s.lo, .int .i64 s.hi], .slice A' n' c'] w (FlowsPost g s l w) := by
  obtain ⟨b4, w1, e4, ew1, hx4, hb1, hz1⟩ := mk_bx w #[.int .i64 s.lo, .int .i64 s.hi] 24
  have HE := hide (rask_any A A' g s l n c n' c' w1 hn hm ((hx.below hb1).more hb1.size) hn' hm' ((hx'.below hb1).more hb1.size))
  obtain ⟨q0, q1, _, _⟩ := hx4.w2
  have Hn := hide hn; have Hn' := hide hn'; have Hx := hide hx; have Hx' := hide hx'
  clear hn hn' hx hx' hz1
  by_cases he : gEnter g s l = 0
  · obtain ⟨hok, hg12, hl30, hfine, hs, hga, hgf⟩ := enter_parts he
    have HE0 := hide (show Calls Try.prog 71 #[.slice A n c, .agg #[.int .i64 s.lo, .int .i64 s.hi], .slice A' n' c'] w1 fun e w' => e = .returned (.int .i64 0) ∧ Below w1.heap.size w1 w' by have := HE.out; rw [he] at this; exact this)
    have He := hide he
    clear he HE
    have hn12 : n ≤ 12 := by rw [Hn.out]; exact hg12
    have hn30 : n' ≤ 30 := by rw [Hn'.out]; exact hl30
    go_enter Try.func22, Try.ntmps22
    go_wp2_with fail
    rw [ew1.out, e4.out]
    refine HE0.out.mono ?_
    rintro e w2 ⟨rfl, hb2⟩
    have hx42 := hx4.bel hb2
    obtain ⟨q0, q1, _, _⟩ := hx42.w2
    have hB2 := hb1.trans (hb2.mono hb1.size)
    go_wp2_with fail
    have HFit := hide (rfit_any A A' g s l n c n' c' w2 Hn.out (by omega) ((Hx.out.below hB2).more hB2.size) Hn'.out (by omega) ((Hx'.out.below hB2).more hB2.size) hfine hs (by rw [Hn.out]; exact hga) hgf)
    have Hra := hide ((Hx.out.below hB2).more hB2.size)
    cases hF : fitS g l s with
    | none =>
      have E1 := hide (show flErr g s l = 24 by simp [flErr, He.out, hF])
      have hp : RFitPost g l s = fun w e w' => ∃ v, e = .returned (.tuple #[v, .bool false]) ∧ Own w' w.heap.size 24 2 Sp.cells v [] ∧ Below w.heap.size w w' := by funext w e w'; simp [RFitPost, hF]
      rw [hp] at HFit
      clear hF hp
      refine HFit.out.mono ?_
      rintro e w5 ⟨v, rfl, hov, hb5⟩
      clear hov
      go_wp2_with fail
      refine bodyPost_ret (v := .tuple #[.slice none 0 0, .slice none 0 0, .int .i64 24]) (by simp [results, Try.results22, go_sem]; try rfl) rfl ?_
      exact ⟨.slice none 0 0, .slice none 0 0, by rw [E1.out], by simp only [flL, E1.out]; exact Own.nil _ _ _ _ _, by simp only [loL, E1.out]; exact Own.nil _ _ _ _ _, hB2.trans (hb5.mono hB2.size)⟩
    | some F =>
      have E1 := hide (show flErr g s l = 0 by simp [flErr, He.out, hF])
      have hp : RFitPost g l s = fun w e w' => ∃ v, e = .returned (.tuple #[v, .bool true]) ∧ Own w' w.heap.size 24 2 Sp.cells v F ∧ Below w.heap.size w w' := by funext w e w'; simp [RFitPost, hF]
      rw [hp] at HFit
      have eF : flowsF g (rdS n l) s = some F := by rw [← hF, Hn.out]; rfl
      have hFl : F.length = n + 1 := by rw [flowsF_len _ _ _ _ eF, Hn.out]
      have hFfine := flowsF_fine _ _ _ _ hfine (rdS_bd n l hgf) (by obtain ⟨b1, b2, b3⟩ := hs; exact ⟨b1, b2, by omega⟩) eF
      have HF := hide hF; have HFl := hide hFl; have HFf := hide hFfine; have Hfine := hide hfine
      clear hF eF hp hFl hFfine
      refine HFit.out.mono ?_
      rintro e w5 ⟨v, rfl, hov, hb5⟩
      obtain ⟨Af, cf, rfl, hrf⟩ := hov.rdn (n + 1) HFl.out
      have Hov := hide hov
      have hB5 := hB2.trans (hb5.mono hB2.size)
      have Hra5 := hide (Hra.out.bel hb5); have Hrf5 := hide hrf
      clear hov hrf
      go_wp2_with fail
      go_loopw [12, 13] (fun a i wr => ∃ (k : Nat) (vl : Value), vl = a ∧ i = .int .i64 k ∧ k ≤ n ∧ Own wr w5.heap.size 24 2 Sp.cells vl ((lostS g F).take k) ∧ Below w5.heap.size w5 wr) (fun _ i _ => n - (intOf i).toNat)
      case atStart => exact ⟨0, _, rfl, rfl, by omega, Own.nil _ _ _ _ _, Below.refl _ _⟩
      case round =>
        obtain ⟨k, vl, rfl, rfl, hk, hvl, hb⟩ := hrel
        by_cases hlt : k < n
        · obtain ⟨bg, offg, a0, a1, a2, a3, a4, a5, rfl, hbg, hxk, e0, e1, e2, e3, e4', e5⟩ := (Hra5.out.below hb).rc (i := k) (by have := Hn.out; omega)
          obtain ⟨bq, offq, f0, f1, rfl, hbq, hfk, d0, d1⟩ := (Hrf5.out.below hb).sp (i := k) (by have := HFl.out; omega)
          have hff := HFf.out _ (List.mem_of_getElem? hfk)
          obtain ⟨⟨g1, g2, g3⟩, ⟨g4, g5, g6⟩, ⟨g7, g8, g9⟩⟩ := Hfine.out _ (List.mem_of_getElem? hxk)
          obtain ⟨f, hf⟩ : ∃ f : Sp, f = ⟨f0, f1⟩ := ⟨_, rfl⟩
          have ef0 : f0 = f.lo := by rw [hf]
          have ef1 : f1 = f.hi := by rw [hf]
          subst ef0 ef1
          obtain ⟨fb1, fb2, fb3⟩ := hff
          simp only at g1 g2 g3 g4 g5 g6 g7 g8 g9 fb1 fb2 fb3
          have hstep := lostS_get hxk hfk
          obtain ⟨b14, w14, e14, ew14, hx14, hb14, hz14⟩ := mk_bx wr #[.int .i64 a0, .int .i64 a1, .int .i64 a2, .int .i64 a3, .int .i64 a4, .int .i64 a5] 96
          have k1 : IntKind.i64.wrap (min f.lo a1 - a2) = min f.lo a1 - a2 := wrapI (by omega)
          have k2 : IntKind.i64.wrap (f.lo - max 0 (min f.lo a1 - a2)) = f.lo - max 0 (min f.lo a1 - a2) := wrapI (by omega)
          have k3 : IntKind.i64.wrap (min f.hi a0 - a3) = min f.hi a0 - a3 := wrapI (by omega)
          have k4 : IntKind.i64.wrap (f.hi - max 0 (min f.hi a0 - a3)) = f.hi - max 0 (min f.hi a0 - a3) := wrapI (by omega)
          simp only at hstep
          obtain ⟨LL, hLL⟩ : ∃ LL, LL = (lostS g F).take k := ⟨_, rfl⟩
          have hLlen : LL.length ≤ 12 := by rw [hLL, List.length_take, lostS_len, ← Hn.out]; omega
          rw [← hLL] at hvl hstep
          have Hstep := hide hstep
          have hvlb := fun q hq => hvl.blockG (g := q) hq
          have hne14 : ¬ vl.ownBlock = some b14 := fun e => by have := (hvlb _ e).2; have := e14.out; omega
          have hnbq : ¬ vl.ownBlock = some bq := fun e => by have := (hvlb _ e).1; omega
          have hbase : w5.heap.size ≤ w14.heap.size := by have := hb.size; have := hb14.size; omega
          have Hb := hide hb; have Hvl0 := hide hvl
          have hbq14 : bq < w14.heap.size := by omega
          have d0 := (hb14.cell (p := ⟨bq, offq + k * 2, none⟩) (by have := hb.size; show bq < _; omega)).trans d0
          have d1 := (hb14.cell (p := ⟨bq, offq + k * 2 + 1, none⟩) (by have := hb.size; show bq < _; omega)).trans d1
          replace hvl := hvl.bel hb14
          have ib1 : (k : Int) < (n : Int) + 1 := by omega
          clear hxk hfk hf hstep hLL hvlb hz14 g1 g2 g3 g4 g5 g6 g7 g8 g9 fb1 fb2 fb3 hb
          go_wp2_with fail
          rw [ew14.out, e14.out]
          refine wp_region_held_drew (S := (fun W => Kept (fun b => ¬ vl.ownBlock = some b) w14 W)) (by kernel_rfl) (by (try dsimp only); exact Kept.all _ (Below.refl _ _).drew) (fun hHeld => ?_)
          have hdr : Below w14.heap.size w14 (World.drew w14) := (Below.refl _ _).drew
          generalize World.drew w14 = Wd12 at hHeld hdr ⊢
          have hvl := hvl.bel hdr
          have hbc := Below.refl Wd12.heap.size Wd12
          refine wpAnyH_take (i := 0) (oi := ⟨_, _, _, _, _, _⟩) (v := ?_) rfl (by kernel_rfl) (by kernel_rfl) (by kernel_rfl) (fun _ _ _ h => h) (Or.inl ⟨by rfl, ?_⟩) hHeld ?_
          rotate_left
          · (intro w hSw; (try dsimp only at hSw); go_simp; try (with_reducible rfl))
          try simp only [Act.put, List.setIfInBounds_toArray, List.set_cons_zero, List.set_cons_succ]
          refine wpAnyH_take (i := 1) (oi := ⟨_, _, _, _, _, _⟩) (v := ?_) rfl (by kernel_rfl) (by kernel_rfl) (by kernel_rfl) (fun _ _ _ h => h) (Or.inl ⟨by rfl, ?_⟩) hHeld ?_
          rotate_left
          · (intro w hSw; (try dsimp only at hSw); go_simp; try (with_reducible rfl))
          try simp only [Act.put, List.setIfInBounds_toArray, List.set_cons_zero, List.set_cons_succ]
          refine wpAnyH_take (i := 2) (oi := ⟨_, _, _, _, _, _⟩) (v := ?_) rfl (by kernel_rfl) (by kernel_rfl) (by kernel_rfl) (fun _ _ _ h => h) (Or.inl ⟨by rfl, ?_⟩) hHeld ?_
          rotate_left
          · (intro w hSw; (try dsimp only at hSw); go_simp; try (with_reducible rfl))
          try simp only [Act.put, List.setIfInBounds_toArray, List.set_cons_zero, List.set_cons_succ]
          refine wpAnyH_take (i := 3) (oi := ⟨_, _, _, _, _, _⟩) (v := ?_) rfl (by kernel_rfl) (by kernel_rfl) (by kernel_rfl) (fun _ _ _ h => h) (Or.inl ⟨by rfl, ?_⟩) hHeld ?_
          rotate_left
          · (intro w hSw; (try dsimp only at hSw); go_simp; try (with_reducible rfl))
          try simp only [Act.put, List.setIfInBounds_toArray, List.set_cons_zero, List.set_cons_succ]
          refine wpAnyH_take (i := 4) (oi := ⟨_, _, _, _, _, _⟩) (v := ?_) rfl (by kernel_rfl) (by kernel_rfl) (by kernel_rfl) (fun _ _ _ h => h) (Or.inl ⟨by rfl, ?_⟩) hHeld ?_
          rotate_left
          · (intro w hSw; (try dsimp only at hSw); go_simp; try (with_reducible rfl))
          try simp only [Act.put, List.setIfInBounds_toArray, List.set_cons_zero, List.set_cons_succ]
          refine wpAnyH_take (i := 5) (oi := ⟨_, _, _, _, _, _⟩) (v := ?_) rfl (by kernel_rfl) (by kernel_rfl) (by kernel_rfl) (fun _ _ _ h => h) (Or.inl ⟨by rfl, ?_⟩) hHeld ?_
          rotate_left
          · (intro w hSw; (try dsimp only at hSw); have d0 := (hSw.cell (p := ⟨bq, offq + k * 2, none⟩) hnbq hbq14).trans d0; have d1 := (hSw.cell (p := ⟨bq, offq + k * 2 + 1, none⟩) hnbq hbq14).trans d1; obtain ⟨z0, z1, z2, z3, z4, z5⟩ := (hx14.at_.kept hSw hne14).c6; go_simp; try (with_reducible rfl))
          try simp only [Act.put, List.setIfInBounds_toArray, List.set_cons_zero, List.set_cons_succ]
          refine wpAnyH_take (i := 6) (oi := ⟨_, _, _, _, _, _⟩) (v := ?_) rfl (by kernel_rfl) (by kernel_rfl) (by kernel_rfl) (fun _ _ _ h => h) (Or.inl ⟨by rfl, ?_⟩) hHeld ?_
          rotate_left
          · (intro w hSw; (try dsimp only at hSw); go_simp; try (with_reducible rfl))
          try simp only [Act.put, List.setIfInBounds_toArray, List.set_cons_zero, List.set_cons_succ]
          refine wpAnyH_take (i := 7) (oi := ⟨_, _, _, _, _, _⟩) (v := ?_) rfl (by kernel_rfl) (by kernel_rfl) (by kernel_rfl) (fun _ _ _ h => h) (Or.inl ⟨by rfl, ?_⟩) hHeld ?_
          rotate_left
          · (intro w hSw; (try dsimp only at hSw); go_simp; try (with_reducible rfl))
          try simp only [Act.put, List.setIfInBounds_toArray, List.set_cons_zero, List.set_cons_succ]
          refine wpAnyH_take (i := 8) (oi := ⟨_, _, _, _, _, _⟩) (v := ?_) rfl (by kernel_rfl) (by kernel_rfl) (by kernel_rfl) (fun _ _ _ h => h) (Or.inl ⟨by rfl, ?_⟩) hHeld ?_
          rotate_left
          · (intro w hSw; (try dsimp only at hSw); go_simp; try (with_reducible rfl))
          try simp only [Act.put, List.setIfInBounds_toArray, List.set_cons_zero, List.set_cons_succ]
          refine wpAnyH_take (i := 9) (oi := ⟨_, _, _, _, _, _⟩) (v := ?_) rfl (by kernel_rfl) (by kernel_rfl) (by kernel_rfl) (fun _ _ _ h => h) (Or.inl ⟨by rfl, ?_⟩) hHeld ?_
          rotate_left
          · (intro w hSw; (try dsimp only at hSw); go_simp; try (with_reducible rfl))
          try simp only [Act.put, List.setIfInBounds_toArray, List.set_cons_zero, List.set_cons_succ]
          refine wpAnyH_take (i := 10) (oi := ⟨_, _, _, _, _, _⟩) (v := ?_) rfl (by kernel_rfl) (by kernel_rfl) (by kernel_rfl) (fun _ _ _ h => h) (Or.inl ⟨by rfl, ?_⟩) hHeld ?_
          rotate_left
          · (intro w hSw; (try dsimp only at hSw); have d0 := (hSw.cell (p := ⟨bq, offq + k * 2, none⟩) hnbq hbq14).trans d0; have d1 := (hSw.cell (p := ⟨bq, offq + k * 2 + 1, none⟩) hnbq hbq14).trans d1; obtain ⟨z0, z1, z2, z3, z4, z5⟩ := (hx14.at_.kept hSw hne14).c6; go_simp; try (with_reducible rfl))
          try simp only [Act.put, List.setIfInBounds_toArray, List.set_cons_zero, List.set_cons_succ]
          refine wpAnyH_take (i := 11) (oi := ⟨_, _, _, _, _, _⟩) (v := ?_) rfl (by kernel_rfl) (by kernel_rfl) (by kernel_rfl) (fun _ _ _ h => h) (Or.inl ⟨by rfl, ?_⟩) hHeld ?_
          rotate_left
          · (intro w hSw; (try dsimp only at hSw); go_simp; try (with_reducible rfl))
          try simp only [Act.put, List.setIfInBounds_toArray, List.set_cons_zero, List.set_cons_succ]
          refine wpAnyH_take (i := 12) (oi := ⟨_, _, _, _, _, _⟩) (v := ?_) rfl (by kernel_rfl) (by kernel_rfl) (by kernel_rfl) (fun _ _ _ h => h) (Or.inl ⟨by rfl, ?_⟩) hHeld ?_
          rotate_left
          · (intro w hSw; (try dsimp only at hSw); go_simp; try (with_reducible rfl))
          try simp only [Act.put, List.setIfInBounds_toArray, List.set_cons_zero, List.set_cons_succ]
          refine wpAnyH_take (i := 13) (oi := ⟨_, _, _, _, _, _⟩) (v := ?_) rfl (by kernel_rfl) (by kernel_rfl) (by kernel_rfl) (fun _ _ _ h => h) (Or.inl ⟨by rfl, ?_⟩) hHeld ?_
          rotate_left
          · (intro w hSw; (try dsimp only at hSw); have d0 := (hSw.cell (p := ⟨bq, offq + k * 2, none⟩) hnbq hbq14).trans d0; have d1 := (hSw.cell (p := ⟨bq, offq + k * 2 + 1, none⟩) hnbq hbq14).trans d1; obtain ⟨z0, z1, z2, z3, z4, z5⟩ := (hx14.at_.kept hSw hne14).c6; go_simp; try (with_reducible rfl))
          try simp only [Act.put, List.setIfInBounds_toArray, List.set_cons_zero, List.set_cons_succ]
          refine wpAnyH_take (i := 14) (oi := ⟨_, _, _, _, _, _⟩) (v := ?_) rfl (by kernel_rfl) (by kernel_rfl) (by kernel_rfl) (fun _ _ _ h => h) (Or.inl ⟨by rfl, ?_⟩) hHeld ?_
          rotate_left
          · (intro w hSw; (try dsimp only at hSw); go_simp; try (with_reducible rfl))
          try simp only [Act.put, List.setIfInBounds_toArray, List.set_cons_zero, List.set_cons_succ]
          refine wpAnyH_take (i := 15) (oi := ⟨_, _, _, _, _, _⟩) (v := ?_) rfl (by kernel_rfl) (by kernel_rfl) (by kernel_rfl) (fun _ _ _ h => h) (Or.inl ⟨by rfl, ?_⟩) hHeld ?_
          rotate_left
          · (intro w hSw; (try dsimp only at hSw); go_simp; try (with_reducible rfl))
          try simp only [Act.put, List.setIfInBounds_toArray, List.set_cons_zero, List.set_cons_succ]
          refine wpAnyH_take (i := 16) (oi := ⟨_, _, _, _, _, _⟩) (v := ?_) rfl (by kernel_rfl) (by kernel_rfl) (by kernel_rfl) (fun _ _ _ h => h) (Or.inl ⟨by rfl, ?_⟩) hHeld ?_
          rotate_left
          · (intro w hSw; (try dsimp only at hSw); go_simp; try (with_reducible rfl))
          try simp only [Act.put, List.setIfInBounds_toArray, List.set_cons_zero, List.set_cons_succ]
          refine wpAnyH_take (i := 17) (oi := ⟨_, _, _, _, _, _⟩) (v := ?_) rfl (by kernel_rfl) (by kernel_rfl) (by kernel_rfl) (fun _ _ _ h => h) (Or.inl ⟨by rfl, ?_⟩) hHeld ?_
          rotate_left
          · (intro w hSw; (try dsimp only at hSw); have d0 := (hSw.cell (p := ⟨bq, offq + k * 2, none⟩) hnbq hbq14).trans d0; have d1 := (hSw.cell (p := ⟨bq, offq + k * 2 + 1, none⟩) hnbq hbq14).trans d1; obtain ⟨z0, z1, z2, z3, z4, z5⟩ := (hx14.at_.kept hSw hne14).c6; go_simp; try (with_reducible rfl))
          try simp only [Act.put, List.setIfInBounds_toArray, List.set_cons_zero, List.set_cons_succ]
          refine wpAnyH_take (i := 18) (oi := ⟨_, _, _, _, _, _⟩) (v := ?_) rfl (by kernel_rfl) (by kernel_rfl) (by kernel_rfl) (fun _ _ _ h => h) (Or.inl ⟨by rfl, ?_⟩) hHeld ?_
          rotate_left
          · (intro w hSw; (try dsimp only at hSw); go_simp; try (with_reducible rfl))
          try simp only [Act.put, List.setIfInBounds_toArray, List.set_cons_zero, List.set_cons_succ]
          refine wpAnyH_take (i := 19) (oi := ⟨_, _, _, _, _, _⟩) (v := ?_) rfl (by kernel_rfl) (by kernel_rfl) (by kernel_rfl) (fun _ _ _ h => h) (Or.inl ⟨by rfl, ?_⟩) hHeld ?_
          rotate_left
          · (intro w hSw; (try dsimp only at hSw); go_simp; try (with_reducible rfl))
          try simp only [Act.put, List.setIfInBounds_toArray, List.set_cons_zero, List.set_cons_succ]
          refine wpAnyH_take (i := 20) (oi := ⟨_, _, _, _, _, _⟩) (v := ?_) rfl (by kernel_rfl) (by kernel_rfl) (by kernel_rfl) (fun _ _ _ h => h) (Or.inl ⟨by rfl, ?_⟩) hHeld ?_
          rotate_left
          · (intro w hSw; (try dsimp only at hSw); go_simp; try (with_reducible rfl))
          try simp only [Act.put, List.setIfInBounds_toArray, List.set_cons_zero, List.set_cons_succ]
          refine wpAnyH_take (i := 21) (oi := ⟨_, _, _, _, _, _⟩) (v := ?_) rfl (by kernel_rfl) (by kernel_rfl) (by kernel_rfl) (fun _ _ _ h => h) (Or.inl ⟨by rfl, ?_⟩) hHeld ?_
          rotate_left
          · (intro w hSw; (try dsimp only at hSw); go_simp; try (with_reducible rfl))
          try simp only [Act.put, List.setIfInBounds_toArray, List.set_cons_zero, List.set_cons_succ]
          refine wpAnyH_take (i := 22) (oi := ⟨_, _, _, _, _, _⟩) (v := ?_) rfl (by kernel_rfl) (by kernel_rfl) (by kernel_rfl) (fun _ _ _ h => h) (Or.inl ⟨by rfl, ?_⟩) hHeld ?_
          rotate_left
          · (intro w hSw; (try dsimp only at hSw); go_simp; try (with_reducible rfl))
          try simp only [Act.put, List.setIfInBounds_toArray, List.set_cons_zero, List.set_cons_succ]
          refine wpAnyH_take (i := 23) (oi := ⟨_, _, _, _, _, _⟩) (v := ?_) rfl (by kernel_rfl) (by kernel_rfl) (by kernel_rfl) (fun _ _ _ h => h) (Or.inl ⟨by rfl, ?_⟩) hHeld ?_
          rotate_left
          · (intro w hSw; (try dsimp only at hSw); go_simp; try (with_reducible rfl))
          try simp only [Act.put, List.setIfInBounds_toArray, List.set_cons_zero, List.set_cons_succ]
          refine wpAnyH_take (i := 24) (oi := ⟨_, _, _, _, _, _⟩) (v := ?_) rfl (by kernel_rfl) (by kernel_rfl) (by kernel_rfl) (fun _ _ _ h => h) (Or.inl ⟨by rfl, ?_⟩) hHeld ?_
          rotate_left
          · (intro w hSw; (try dsimp only at hSw); go_simp; try (with_reducible rfl))
          try simp only [Act.put, List.setIfInBounds_toArray, List.set_cons_zero, List.set_cons_succ]
          refine wpAnyH_take (i := 25) (oi := ⟨_, _, _, _, _, _⟩) (v := ?_) rfl (by kernel_rfl) (by kernel_rfl) (by kernel_rfl) (fun _ _ _ h => h) (Or.inl ⟨by rfl, ?_⟩) hHeld ?_
          rotate_left
          · (intro w hSw; (try dsimp only at hSw); have d0 := (hSw.cell (p := ⟨bq, offq + k * 2, none⟩) hnbq hbq14).trans d0; have d1 := (hSw.cell (p := ⟨bq, offq + k * 2 + 1, none⟩) hnbq hbq14).trans d1; obtain ⟨z0, z1, z2, z3, z4, z5⟩ := (hx14.at_.kept hSw hne14).c6; go_simp; try (with_reducible rfl))
          try simp only [Act.put, List.setIfInBounds_toArray, List.set_cons_zero, List.set_cons_succ]
          refine wpAnyH_take (i := 26) (oi := ⟨_, _, _, _, _, _⟩) (v := ?_) rfl (by kernel_rfl) (by kernel_rfl) (by kernel_rfl) (fun _ _ _ h => h) (Or.inl ⟨by rfl, ?_⟩) hHeld ?_
          rotate_left
          · (intro w hSw; (try dsimp only at hSw); go_simp; try (with_reducible rfl))
          try simp only [Act.put, List.setIfInBounds_toArray, List.set_cons_zero, List.set_cons_succ]
          refine wpAnyH_take (i := 27) (oi := ⟨_, _, _, _, _, _⟩) (v := ?_) rfl (by kernel_rfl) (by kernel_rfl) (by kernel_rfl) (fun _ _ _ h => h) (Or.inl ⟨by rfl, ?_⟩) hHeld ?_
          rotate_left
          · (intro w hSw; (try dsimp only at hSw); go_simp; try (with_reducible rfl))
          try simp only [Act.put, List.setIfInBounds_toArray, List.set_cons_zero, List.set_cons_succ]
          refine wpAnyH_take (i := 28) (oi := ⟨_, _, _, _, _, _⟩) (v := ?_) rfl (by kernel_rfl) (by kernel_rfl) (by kernel_rfl) (fun _ _ _ h => h) (Or.inl ⟨by rfl, ?_⟩) hHeld ?_
          rotate_left
          · (intro w hSw; (try dsimp only at hSw); go_simp; try (with_reducible rfl))
          try simp only [Act.put, List.setIfInBounds_toArray, List.set_cons_zero, List.set_cons_succ]
          refine wpAnyH_take (i := 29) (oi := ⟨_, _, _, _, _, _⟩) (v := ?_) rfl (by kernel_rfl) (by kernel_rfl) (by kernel_rfl) (fun _ _ _ h => h) (Or.inl ⟨by rfl, ?_⟩) hHeld ?_
          rotate_left
          · (intro w hSw; (try dsimp only at hSw); go_simp; try (with_reducible rfl))
          try simp only [Act.put, List.setIfInBounds_toArray, List.set_cons_zero, List.set_cons_succ]
          refine wpAnyH_take (i := 30) (oi := ⟨_, _, _, _, _, _⟩) (v := ?_) rfl (by kernel_rfl) (by kernel_rfl) (by kernel_rfl) (fun _ _ _ h => h) (Or.inl ⟨by rfl, ?_⟩) hHeld ?_
          rotate_left
          · (intro w hSw; (try dsimp only at hSw); have d0 := (hSw.cell (p := ⟨bq, offq + k * 2, none⟩) hnbq hbq14).trans d0; have d1 := (hSw.cell (p := ⟨bq, offq + k * 2 + 1, none⟩) hnbq hbq14).trans d1; obtain ⟨z0, z1, z2, z3, z4, z5⟩ := (hx14.at_.kept hSw hne14).c6; go_simp; try (with_reducible rfl))
          try simp only [Act.put, List.setIfInBounds_toArray, List.set_cons_zero, List.set_cons_succ]
          refine wpAnyH_take (i := 31) (oi := ⟨_, _, _, _, _, _⟩) (v := ?_) rfl (by kernel_rfl) (by kernel_rfl) (by kernel_rfl) (fun _ _ _ h => h) (Or.inl ⟨by rfl, ?_⟩) hHeld ?_
          rotate_left
          · (intro w hSw; (try dsimp only at hSw); go_simp; try (with_reducible rfl))
          try simp only [Act.put, List.setIfInBounds_toArray, List.set_cons_zero, List.set_cons_succ]
          refine wpAnyH_take (i := 32) (oi := ⟨_, _, _, _, _, _⟩) (v := ?_) rfl (by kernel_rfl) (by kernel_rfl) (by kernel_rfl) (fun _ _ _ h => h) (Or.inl ⟨by rfl, ?_⟩) hHeld ?_
          rotate_left
          · (intro w hSw; (try dsimp only at hSw); go_simp; try (with_reducible rfl))
          try simp only [Act.put, List.setIfInBounds_toArray, List.set_cons_zero, List.set_cons_succ]
          refine wpAnyH_take (i := 33) (oi := ⟨_, _, _, _, _, _⟩) (v := ?_) rfl (by kernel_rfl) (by kernel_rfl) (by kernel_rfl) (fun _ _ _ h => h) (Or.inl ⟨by rfl, ?_⟩) hHeld ?_
          rotate_left
          · (intro w hSw; (try dsimp only at hSw); have d0 := (hSw.cell (p := ⟨bq, offq + k * 2, none⟩) hnbq hbq14).trans d0; have d1 := (hSw.cell (p := ⟨bq, offq + k * 2 + 1, none⟩) hnbq hbq14).trans d1; obtain ⟨z0, z1, z2, z3, z4, z5⟩ := (hx14.at_.kept hSw hne14).c6; go_simp; try (with_reducible rfl))
          try simp only [Act.put, List.setIfInBounds_toArray, List.set_cons_zero, List.set_cons_succ]
          refine wpAnyH_take (i := 34) (oi := ⟨_, _, _, _, _, _⟩) (v := ?_) rfl (by kernel_rfl) (by kernel_rfl) (by kernel_rfl) (fun _ _ _ h => h) (Or.inl ⟨by rfl, ?_⟩) hHeld ?_
          rotate_left
          · (intro w hSw; (try dsimp only at hSw); go_simp; try (with_reducible rfl))
          try simp only [Act.put, List.setIfInBounds_toArray, List.set_cons_zero, List.set_cons_succ]
          refine wpAnyH_take (i := 35) (oi := ⟨_, _, _, _, _, _⟩) (v := ?_) rfl (by kernel_rfl) (by kernel_rfl) (by kernel_rfl) (fun _ _ _ h => h) (Or.inl ⟨by rfl, ?_⟩) hHeld ?_
          rotate_left
          · (intro w hSw; (try dsimp only at hSw); go_simp; try (with_reducible rfl))
          try simp only [Act.put, List.setIfInBounds_toArray, List.set_cons_zero, List.set_cons_succ]
          refine wpAnyH_take (i := 36) (oi := ⟨_, _, _, _, _, _⟩) (v := ?_) rfl (by kernel_rfl) (by kernel_rfl) (by kernel_rfl) (fun _ _ _ h => h) (Or.inl ⟨by rfl, ?_⟩) hHeld ?_
          rotate_left
          · (intro w hSw; (try dsimp only at hSw); go_simp; try (with_reducible rfl))
          try simp only [Act.put, List.setIfInBounds_toArray, List.set_cons_zero, List.set_cons_succ]
          refine wpAnyH_take (i := 37) (oi := ⟨_, _, _, _, _, _⟩) (v := ?_) rfl (by kernel_rfl) (by kernel_rfl) (by kernel_rfl) (fun _ _ _ h => h) (Or.inl ⟨by rfl, ?_⟩) hHeld ?_
          rotate_left
          · (intro w hSw; (try dsimp only at hSw); have d0 := (hSw.cell (p := ⟨bq, offq + k * 2, none⟩) hnbq hbq14).trans d0; have d1 := (hSw.cell (p := ⟨bq, offq + k * 2 + 1, none⟩) hnbq hbq14).trans d1; obtain ⟨z0, z1, z2, z3, z4, z5⟩ := (hx14.at_.kept hSw hne14).c6; go_simp; try (with_reducible rfl))
          try simp only [Act.put, List.setIfInBounds_toArray, List.set_cons_zero, List.set_cons_succ]
          refine wpAnyH_take (i := 38) (oi := ⟨_, _, _, _, _, _⟩) (v := ?_) rfl (by kernel_rfl) (by kernel_rfl) (by kernel_rfl) (fun _ _ _ h => h) (Or.inl ⟨by rfl, ?_⟩) hHeld ?_
          rotate_left
          · (intro w hSw; (try dsimp only at hSw); go_simp; try (with_reducible rfl))
          try simp only [Act.put, List.setIfInBounds_toArray, List.set_cons_zero, List.set_cons_succ]
          refine wpAnyH_take (i := 39) (oi := ⟨_, _, _, _, _, _⟩) (v := ?_) rfl (by kernel_rfl) (by kernel_rfl) (by kernel_rfl) (fun _ _ _ h => h) (Or.inl ⟨by rfl, ?_⟩) hHeld ?_
          rotate_left
          · (intro w hSw; (try dsimp only at hSw); go_simp; try (with_reducible rfl))
          try simp only [Act.put, List.setIfInBounds_toArray, List.set_cons_zero, List.set_cons_succ]
          refine wpAnyH_take (i := 40) (oi := ⟨_, _, _, _, _, _⟩) (v := ?_) rfl (by kernel_rfl) (by kernel_rfl) (by kernel_rfl) (fun _ _ _ h => h) (Or.inl ⟨by rfl, ?_⟩) hHeld ?_
          rotate_left
          · (intro w hSw; (try dsimp only at hSw); go_simp; try (with_reducible rfl))
          try simp only [Act.put, List.setIfInBounds_toArray, List.set_cons_zero, List.set_cons_succ]
          refine wpAnyH_take (i := 41) (oi := ⟨_, _, _, _, _, _⟩) (v := ?_) rfl (by kernel_rfl) (by kernel_rfl) (by kernel_rfl) (fun _ _ _ h => h) (Or.inl ⟨by rfl, ?_⟩) hHeld ?_
          rotate_left
          · (intro w hSw; (try dsimp only at hSw); go_simp; try (with_reducible rfl))
          try simp only [Act.put, List.setIfInBounds_toArray, List.set_cons_zero, List.set_cons_succ]
          refine wpAnyH_ready (rs := [42]) (by kernel_rfl) (by simp) ?_
          refine AllReadyH.cons (o := ⟨_, _, _, _, _, _⟩) rfl (fun K hK => ?_) AllReadyH.nil
          go_simp
          obtain ⟨b83, V83, eb83, ev83, r83, hb⟩ := mk_row (cells := Sp.cells) Wd12 #[.int .i64 (f.lo - max 0 (min f.lo a1 - a2)), .int .i64 (f.hi - max 0 (min f.hi a0 - a3))] 24 [⟨f.lo - max 0 (min f.lo a1 - a2), f.hi - max 0 (min f.hi a0 - a3)⟩] rfl
          rw [ev83.out, eb83.out]
          have hHeldN := hHeld.trans (Kept.all _ hb)
          have hvl := hvl.bel hb
          have hbc := hbc.trans (hb.mono hbc.size)
          refine hK.out _ _ ?_ (fun hHeld2 => ?_)
          · exact hHeldN
          clear hK K hHeld hHeldN hb; have hHeld := hHeld2; clear hHeld2
          try simp only [Act.put, List.setIfInBounds_toArray, List.set_cons_zero, List.set_cons_succ]
          refine wpAnyH_ready (rs := [43]) (by kernel_rfl) (by simp) ?_
          refine AllReadyH.cons (o := ⟨_, _, _, _, _, _⟩) rfl (fun K hK => ?_) AllReadyH.nil
          refine op_app (v := vl) (xs := LL) (ys := [⟨f.lo - max 0 (min f.lo a1 - a2), f.hi - max 0 (min f.hi a0 - a3)⟩]) (n := 1) el_sp (.tmp 41) (.tmp 83) rfl rfl hvl rfl rfl r83 (by omega) (Nat.le_trans hbase hHeld.size) ?_
          intro vv V84 hown hg hat
          have hkg := hHeld.trans ((Kept.grown hg).mono fun b _ hb e => hb e.symm)
          refine hK.out _ _ ?_ (fun hHeld2 => ?_)
          · (try dsimp only); exact hkg
          clear hK K hHeld; have hHeld := hHeld2; clear hHeld2
          try simp only [Act.put, List.setIfInBounds_toArray, List.set_cons_zero, List.set_cons_succ]
          refine wpAnyH_take (i := 44) (oi := ⟨_, _, _, _, _, _⟩) (v := ?_) rfl (by kernel_rfl) (by kernel_rfl) (by kernel_rfl) (fun _ _ _ h => h) (Or.inl ⟨by rfl, ?_⟩) hHeld ?_
          rotate_left
          · (intro w hSw; (try dsimp only at hSw); go_simp; try (with_reducible rfl))
          try simp only [Act.put, List.setIfInBounds_toArray, List.set_cons_zero, List.set_cons_succ]
          refine wpAnyH_done (by kernel_rfl) ?_ _
          go_wp2_with fail
          have hB14 := Hb.out.trans (hb14.mono Hb.out.size)
          exact ⟨⟨k + 1, vv, rfl, by go_num, by omega, by rw [Hstep.out]; exact hown, hB14.trans (hkg.below (fun b hb e => by have := (Hvl0.out.blockG e).1; omega) hB14.size)⟩, by simp [intOf]; omega⟩
        · obtain rfl : n = k := by omega
          rw [List.take_of_length_le (by rw [lostS_len, ← Hn.out]; exact Nat.le_refl _)] at hvl
          have hov := Hov.out.bel hb
          obtain ⟨Al, cl, rfl, hrl⟩ := hvl.rdn n (by rw [lostS_len, Hn.out])
          have Hvl := hide hvl; have Hov2 := hide hov
          have hBr := hB5.trans (hb.mono hB5.size)
          clear hvl hov hrl
          go_wp2_with fail
          refine bodyPost_ret (v := .tuple #[.slice Af (n + 1) cf, .slice Al n cl, .int .i64 0]) (by simp [results, Try.results22, go_sem]; try rfl) rfl ?_
          refine ⟨.slice Af (n + 1) cf, .slice Al n cl, by rw [E1.out], ?_, ?_, hBr⟩
          · simp only [flL, E1.out, HF.out]; exact Hov2.out.mono hB2.size
          · simp only [loL, E1.out, HF.out]; exact Hvl.out.mono hB5.size
  · have E1 := hide (show flErr g s l = gEnter g s l by simp [flErr, he])
    have He := hide he
    have hne : (gEnter g s l == 0) = false := by simpa using he
    have hne2 : (gEnter g s l != 0) = true := by simpa using he
    clear he
    go_enter Try.func22, Try.ntmps22
    go_wp2_with fail
    rw [ew1.out, e4.out]
    refine HE.out.mono ?_
    rintro e w2 ⟨rfl, hb2⟩
    go_wp2_with fail
    refine bodyPost_ret (v := .tuple #[.slice none 0 0, .slice none 0 0, .int .i64 (gEnter g s l)]) (by simp [results, Try.results22, go_sem]; try rfl) rfl ?_
    have hz : ¬ flErr g s l = 0 := by rw [E1.out]; exact He.out
    exact ⟨.slice none 0 0, .slice none 0 0, by rw [E1.out], by simp only [flL, if_neg hz]; exact Own.nil _ _ _ _ _, by simp only [loL, if_neg hz]; exact Own.nil _ _ _ _ _, hb1.trans (hb2.mono hb1.size)⟩
end Go.Proofs.Ytkmocikcohhdoaa
