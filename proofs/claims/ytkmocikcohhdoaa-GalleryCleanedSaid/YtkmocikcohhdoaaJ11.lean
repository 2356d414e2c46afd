/- The closure of GalleryCleaned, by contract. -/
import Derived.Test.YtkmocikcohhdoaaJ8
import Derived.Test.YtkmocikcohhdoaaJA
set_option linter.unusedVariables false
set_option linter.unusedSimpArgs false
namespace Go.Proofs.Ytkmocikcohhdoaa
open Go.RowKit Go.Shelf
set_option maxHeartbeats 4000000 in
set_option maxRecDepth 100000 in
theorem gives_any (A : Option Addr) (g : List Rc) (n c s p1 p2 : Nat) (lo hi : Int) (w : World) (hn : n = g.length) (hm : n ≤ 20) (hx : Rd w w.heap.size Rc.cells A g) (at4 : Bx w p1 [.slice A n c]) (at5 : Bx w p2 [.int .i64 lo, .int .i64 hi])
    (hs : s < 65536) (hsm : ∀ r ∈ cleanTo g s g.length, r.small) (h0 : 0 ≤ lo) (h1 : lo ≤ 26000000) :
    Calls Try.prog 44 #[.int .i64 (s : Int), .pointer (some ⟨p1, 0, none⟩), .pointer (some ⟨p2, 0, none⟩)] w fun e w' => e = .returned (.int .i64 (endF (cleanTo g s g.length) lo)) ∧ Below w.heap.size w w' := by
  have Hn := hide hn; have Hx := hide hx; have Hs := hide hs; have Hsm := hide hsm
  clear hn hx hs hsm
  go_enter Try.func44, Try.ntmps44
  go_wp2_with fail
  refine wp_region_held_drew (S := (fun W => Below w.heap.size w W)) (by kernel_rfl) (by (try dsimp only); exact (Below.refl _ _).drew) (fun hHeld => ?_)
  generalize World.drew w = Wd1 at hHeld ⊢
  have hbc := Below.refl Wd1.heap.size Wd1
  refine wpAnyH_take (i := 0) (oi := ⟨_, _, _, _, _, _⟩) (v := ?_) rfl (by kernel_rfl) (by kernel_rfl) (by kernel_rfl) (fun _ _ _ h => h) (Or.inl ⟨by rfl, ?_⟩) hHeld ?_
  rotate_left
  · (intro w hSw; (try dsimp only at hSw); have x4 := (at4.bel hSw).at_.c1; obtain ⟨q0, q1, _, _⟩ := (at5.bel hSw).w2; go_simp; try (with_reducible rfl))
  try simp only [Act.put, List.setIfInBounds_toArray, List.set_cons_zero, List.set_cons_succ]
  refine wpAnyH_take (i := 1) (oi := ⟨_, _, _, _, _, _⟩) (v := ?_) rfl (by kernel_rfl) (by kernel_rfl) (by kernel_rfl) (fun _ _ _ h => h) (Or.inl ⟨by rfl, ?_⟩) hHeld ?_
  rotate_left
  · (intro w hSw; (try dsimp only at hSw); go_simp; try (with_reducible rfl))
  try simp only [Act.put, List.setIfInBounds_toArray, List.set_cons_zero, List.set_cons_succ]
  refine wpAnyH_take (i := 3) (oi := ⟨_, _, _, _, _, _⟩) (v := ?_) rfl (by kernel_rfl) (by kernel_rfl) (by kernel_rfl) (fun _ _ _ h => h) (Or.inl ⟨by rfl, ?_⟩) hHeld ?_
  rotate_left
  · (intro w hSw; (try dsimp only at hSw); go_simp; try (with_reducible rfl))
  try simp only [Act.put, List.setIfInBounds_toArray, List.set_cons_zero, List.set_cons_succ]
  refine wpAnyH_take (i := 4) (oi := ⟨_, _, _, _, _, _⟩) (v := ?_) rfl (by kernel_rfl) (by kernel_rfl) (by kernel_rfl) (fun _ _ _ h => h) (Or.inl ⟨by rfl, ?_⟩) hHeld ?_
  rotate_left
  · (intro w hSw; (try dsimp only at hSw); have x4 := (at4.bel hSw).at_.c1; obtain ⟨q0, q1, _, _⟩ := (at5.bel hSw).w2; go_simp; try (with_reducible rfl))
  try simp only [Act.put, List.setIfInBounds_toArray, List.set_cons_zero, List.set_cons_succ]
  refine wpAnyH_ready (rs := [2]) (by kernel_rfl) (by simp) ?_
  refine AllReadyH.cons (o := ⟨_, _, _, _, _, _⟩) rfl (fun K hK => ?_) AllReadyH.nil
  go_simp
  refine (cleaned_any A g n c s _ Hn.out hm ((Hx.out.below hHeld).more hHeld.size) Hs.out).mono ?_
  rintro e V7 ⟨v7, rfl, o7, hb⟩
  go_wp2_with fail
  have hHeldN := hHeld.trans (hb.mono hHeld.size)
  have hbc := hbc.trans (hb.mono hbc.size)
  refine hK.out _ _ ?_ (fun hHeld2 => ?_)
  · exact hHeldN
  clear hK K hHeld hHeldN hb; have hHeld := hHeld2; clear hHeld2
  try simp only [Act.put, List.setIfInBounds_toArray, List.set_cons_zero, List.set_cons_succ]
  refine wpAnyH_ready (rs := [5]) (by kernel_rfl) (by simp) ?_
  refine AllReadyH.cons (o := ⟨_, _, _, _, _, _⟩) rfl (fun K hK => ?_) AllReadyH.nil
  obtain ⟨A7, c7, rfl, r7⟩ := o7.rdn n (by rw [cleanTo_len]; exact Hn.out.symm)
  go_simp
  refine (end_any A7 (cleanTo g s g.length) n c7 lo _ (by rw [cleanTo_len]; exact Hn.out) (by omega) r7 Hsm.out h0 h1).mono ?_
  rintro e V10 ⟨rfl, hb⟩
  go_wp2_with fail
  have hHeldN := hHeld.trans (hb.mono hHeld.size)
  have o7 := o7.bel hb
  have hbc := hbc.trans (hb.mono hbc.size)
  refine hK.out _ _ ?_ (fun hHeld2 => ?_)
  · exact hHeldN
  clear hK K hHeld hHeldN hb; have hHeld := hHeld2; clear hHeld2
  try simp only [Act.put, List.setIfInBounds_toArray, List.set_cons_zero, List.set_cons_succ]
  refine wpAnyH_take (i := 6) (oi := ⟨_, _, _, _, _, _⟩) (v := ?_) rfl (by kernel_rfl) (by kernel_rfl) (by kernel_rfl) (fun _ _ _ h => h) (Or.inl ⟨by rfl, ?_⟩) hHeld ?_
  rotate_left
  · (intro w hSw; (try dsimp only at hSw); go_simp; try (with_reducible rfl))
  try simp only [Act.put, List.setIfInBounds_toArray, List.set_cons_zero, List.set_cons_succ]
  refine wpAnyH_done (by kernel_rfl) ?_ _
  have hB := hHeld
  clear hbc hHeld
  obtain ⟨x, hx⟩ : ∃ x, x = endF (cleanTo g s g.length) lo := ⟨_, rfl⟩
  rw [← hx]
  have Hx2 := hide hx
  clear hx
  go_wp2_with fail
  go_ret
  exact ⟨by rw [← Hx2.out]; rfl, hB⟩
end Go.Proofs.Ytkmocikcohhdoaa
