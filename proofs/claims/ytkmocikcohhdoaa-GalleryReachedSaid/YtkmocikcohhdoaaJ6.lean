/- Gallery, outright: one gauge more that reads one number: plain; the closure of GalleryReached, by contract. -/
import Derived.Test.YtkmocikcohhdoaaJA
import Derived.Test.YtkmocikcohhdoaaApp2
set_option linter.unusedVariables false
set_option linter.unusedSimpArgs false
namespace Go.Proofs.Ytkmocikcohhdoaa
open Go.RowKit Go.Shelf
theorem fine_ok {m : Int} {s : Sp} (h : s.fine m) : Sp.ok 0 m s = true := by
  obtain ⟨h1, h2, h3⟩ := h
  simp [Sp.ok, h1, h2, h3]
theorem enter_bad {g : List Rc} {s : Sp} {l : List Ga} {x : Ga} (hg : gOk g = true) (hs : Sp.ok 0 1000000 s = true) (hx : x ∈ l) (hb : Ga.bad g.length x = true) : gEnter g s l = 23 := by
  have h1 : anyBad 1000000 [s] = false := by
    have := anyBad_one 1000000 s
    rw [hs] at this
    simpa using this
  have h2 : gasBad g l = true := by
    unfold gasBad
    rw [List.any_eq_true.2 ⟨x, hx, hb⟩, Bool.or_true]
  unfold gEnter
  rw [hg, if_pos rfl, h1, if_neg (by decide), h2, if_pos rfl]
theorem told_fine {g : List Rc} {s : Sp} {l : List Ga} {F : List Sp} (he : gEnter g s l = 0) (hF : fitS g l s = some F) : ∀ x ∈ F, x.fine 13000000 := by
  obtain ⟨hok, hg12, hl30, hfine, hs, hga, hgf⟩ := enter_parts he
  exact flowsF_fine _ _ _ _ hfine (rdS_bd g.length l hgf) (by obtain ⟨b1, b2, b3⟩ := hs; exact ⟨b1, b2, by omega⟩) hF
theorem may_iff {g : List Rc} {s : Sp} {l : List Ga} {k : Nat} {F : List Sp} {v : Int} (he : gEnter g s l = 0) (h29 : l.length ≤ 29) (hk : k ≤ g.length) (hF : fitS g l s = some F) : flErr g s (l ++ [⟨(k : Int), ⟨v, v⟩⟩]) = 0 ↔ inS v (F.getD k allS) := by
  obtain ⟨hok, hg12, hl30, hfine, hs, hga, hgf⟩ := enter_parts he
  have hso := fine_ok hs
  have hFl : F.length = g.length + 1 := flowsF_len _ _ _ _ hF
  by_cases hv : 0 ≤ v ∧ v ≤ 13000000
  · have he2 : gEnter g s (l ++ [⟨(k : Int), ⟨v, v⟩⟩]) = 0 := enter_ok hok hso (by rw [List.length_append]; simp; omega) (fun x hx => by
      rcases List.mem_append.1 hx with h | h
      · exact ⟨hga x h, hgf x h⟩
      · obtain rfl : x = ⟨(k : Int), ⟨v, v⟩⟩ := by simpa using h
        exact ⟨⟨by show (0 : Int) ≤ (k : Int); omega, by show (k : Int) ≤ _; omega⟩, hv.1, Int.le_refl _, hv.2⟩)
    have h1 := feas_at (s := s) hfine hk (rdS_len g.length l) v
    have h2 : fitS g (l ++ [⟨(k : Int), ⟨v, v⟩⟩]) s = flowsF g ((rdS g.length l).set k (cutS ((rdS g.length l).getD k allS) ⟨v, v⟩)) s := by
      unfold fitS; rw [rdS_snoc]; rfl
    unfold flErr
    rw [if_pos he2, h2]
    constructor
    · intro h
      split at h
      · rename_i h3
        obtain ⟨F', hF', hin⟩ := h1.1 h3
        have : F' = F := by unfold fitS at hF; rw [hF] at hF'; injection hF' with h; exact h.symm
        rw [← this]; exact hin
      · omega
    · intro h
      rw [if_pos (h1.2 ⟨F, hF, h⟩)]
  · have he2 : gEnter g s (l ++ [⟨(k : Int), ⟨v, v⟩⟩]) = 23 := enter_bad (x := ⟨(k : Int), ⟨v, v⟩⟩) hok hso (by simp) (by
      have : anyBad 13000000 [(⟨v, v⟩ : Sp)] = true := by simp [anyBad, Sp.bad]; omega
      simp [Ga.bad, this])
    have hf : F[k]? = some F[k] := List.getElem?_eq_getElem (by omega)
    have h3 := told_fine he hF _ (List.mem_of_getElem? hf)
    have h4 : F.getD k allS = F[k] := by rw [List.getD_eq_getElem?_getD, hf]; rfl
    unfold flErr
    rw [if_neg (by rw [he2]; decide), he2, h4]
    constructor
    · intro h; omega
    · intro h
      obtain ⟨h5, h6, h7⟩ := h3
      obtain ⟨h8, h9⟩ := h
      omega
set_option maxHeartbeats 4000000 in
set_option maxRecDepth 100000 in
theorem reached1_any (A A1 : Option Addr) (g : List Rc) (s : Sp) (l : List Ga) (n c n1 c1 k p1 p2 p3 p4 : Nat) (v : Int) (w : World) (hn : n = g.length) (hm : n ≤ 9223372036854775807) (hx : Rd w w.heap.size Rc.cells A g)
    (hnl : n1 = l.length) (hn1 : n1 ≤ 100) (hx1 : Rd w w.heap.size Ga.cells A1 l) (at1 : Bx w p1 [.slice A n c]) (at2 : Bx w p2 [.int .i64 s.lo, .int .i64 s.hi]) (at3 : Bx w p3 [.slice A1 n1 c1]) (at4 : Bx w p4 [.int .i64 (k : Int)]) :
    Calls Try.prog 39 #[.int .i64 v, .pointer (some ⟨p1, 0, none⟩), .pointer (some ⟨p2, 0, none⟩), .pointer (some ⟨p3, 0, none⟩), .pointer (some ⟨p4, 0, none⟩)] w fun e w' => e = .returned (.bool (decide (flErr g s (l ++ [⟨(k : Int), ⟨v, v⟩⟩]) = 0))) ∧ Below w.heap.size w w' := by
  have Hn := hide hn; have Hn1 := hide hnl; have Hx := hide hx; have Hx1 := hide hx1
  clear hn hnl hx hx1
  go_enter Try.func39, Try.ntmps39
  go_wp2_with fail
  refine wp_region_held_drew (S := (fun W => Below w.heap.size w W)) (by kernel_rfl) (by (try dsimp only); exact (Below.refl _ _).drew) (fun hHeld => ?_)
  generalize World.drew w = Wd1 at hHeld ⊢
  have hbc := Below.refl Wd1.heap.size Wd1
  refine wpAnyH_take (i := 0) (oi := ⟨_, _, _, _, _, _⟩) (v := ?_) rfl (by kernel_rfl) (by kernel_rfl) (by kernel_rfl) (fun _ _ _ h => h) (Or.inl ⟨by rfl, ?_⟩) hHeld ?_
  rotate_left
  · (intro w hSw; (try dsimp only at hSw); have x1 := (at1.bel hSw).at_.c1; obtain ⟨q0, q1, _, _⟩ := (at2.bel hSw).w2; have x3 := (at3.bel hSw).at_.c1; have x4 := (at4.bel hSw).at_.c1; go_simp; try (with_reducible rfl))
  try simp only [Act.put, List.setIfInBounds_toArray, List.set_cons_zero, List.set_cons_succ]
  refine wpAnyH_take (i := 1) (oi := ⟨_, _, _, _, _, _⟩) (v := ?_) rfl (by kernel_rfl) (by kernel_rfl) (by kernel_rfl) (fun _ _ _ h => h) (Or.inl ⟨by rfl, ?_⟩) hHeld ?_
  rotate_left
  · (intro w hSw; (try dsimp only at hSw); have x1 := (at1.bel hSw).at_.c1; obtain ⟨q0, q1, _, _⟩ := (at2.bel hSw).w2; have x3 := (at3.bel hSw).at_.c1; have x4 := (at4.bel hSw).at_.c1; go_simp; try (with_reducible rfl))
  try simp only [Act.put, List.setIfInBounds_toArray, List.set_cons_zero, List.set_cons_succ]
  refine wpAnyH_take (i := 3) (oi := ⟨_, _, _, _, _, _⟩) (v := ?_) rfl (by kernel_rfl) (by kernel_rfl) (by kernel_rfl) (fun _ _ _ h => h) (Or.inl ⟨by rfl, ?_⟩) hHeld ?_
  rotate_left
  · (intro w hSw; (try dsimp only at hSw); have x1 := (at1.bel hSw).at_.c1; obtain ⟨q0, q1, _, _⟩ := (at2.bel hSw).w2; have x3 := (at3.bel hSw).at_.c1; have x4 := (at4.bel hSw).at_.c1; go_simp; try (with_reducible rfl))
  try simp only [Act.put, List.setIfInBounds_toArray, List.set_cons_zero, List.set_cons_succ]
  refine wpAnyH_take (i := 5) (oi := ⟨_, _, _, _, _, _⟩) (v := ?_) rfl (by kernel_rfl) (by kernel_rfl) (by kernel_rfl) (fun _ _ _ h => h) (Or.inl ⟨by rfl, ?_⟩) hHeld ?_
  rotate_left
  · (intro w hSw; (try dsimp only at hSw); have x1 := (at1.bel hSw).at_.c1; obtain ⟨q0, q1, _, _⟩ := (at2.bel hSw).w2; have x3 := (at3.bel hSw).at_.c1; have x4 := (at4.bel hSw).at_.c1; go_simp; try (with_reducible rfl))
  try simp only [Act.put, List.setIfInBounds_toArray, List.set_cons_zero, List.set_cons_succ]
  refine wpAnyH_take (i := 6) (oi := ⟨_, _, _, _, _, _⟩) (v := ?_) rfl (by kernel_rfl) (by kernel_rfl) (by kernel_rfl) (fun _ _ _ h => h) (Or.inl ⟨by rfl, ?_⟩) hHeld ?_
  rotate_left
  · (intro w hSw; (try dsimp only at hSw); go_simp; try (with_reducible rfl))
  try simp only [Act.put, List.setIfInBounds_toArray, List.set_cons_zero, List.set_cons_succ]
  refine wpAnyH_take (i := 7) (oi := ⟨_, _, _, _, _, _⟩) (v := ?_) rfl (by kernel_rfl) (by kernel_rfl) (by kernel_rfl) (fun _ _ _ h => h) (Or.inl ⟨by rfl, ?_⟩) hHeld ?_
  rotate_left
  · (intro w hSw; (try dsimp only at hSw); go_simp; try (with_reducible rfl))
  try simp only [Act.put, List.setIfInBounds_toArray, List.set_cons_zero, List.set_cons_succ]
  refine wpAnyH_ready (rs := [2]) (by kernel_rfl) (by simp) ?_
  refine AllReadyH.cons (o := ⟨_, _, _, _, _, _⟩) rfl (fun K hK => ?_) AllReadyH.nil
  go_simp
  obtain ⟨b13, V13, eb13, ev13, o13, hb⟩ := mk_own (cells := Ga.cells) Wd1 #[] 64 3 [] Ga.len rfl (by decide) w.heap.size hHeld.size
  rw [ev13.out, eb13.out]
  have hHeldN := hHeld.trans (hb.mono hHeld.size)
  have hbc := hbc.trans (hb.mono hbc.size)
  refine hK.out _ _ ?_ (fun hHeld2 => ?_)
  · exact hHeldN
  clear hK K hHeld hHeldN hb; have hHeld := hHeld2; clear hHeld2
  try simp only [Act.put, List.setIfInBounds_toArray, List.set_cons_zero, List.set_cons_succ]
  refine wpAnyH_ready (rs := [4]) (by kernel_rfl) (by simp) ?_
  refine AllReadyH.cons (o := ⟨_, _, _, _, _, _⟩) rfl (fun K hK => ?_) AllReadyH.nil
  refine op_fresh el_ga (.tmp 13) (.tmp 14) rfl rfl o13 Hn1.out.symm rfl ((Hx1.out.below hHeld).more hHeld.size) (by omega) hHeld.size ?_
  intro v15 V15 o15 hb _
  have hHeldN := hHeld.trans (hb.mono hHeld.size)
  have o13 := o13.bel hb
  have hbc := hbc.trans (hb.mono hbc.size)
  refine hK.out _ _ ?_ (fun hHeld2 => ?_)
  · exact hHeldN
  clear hK K hHeld hHeldN hb; have hHeld := hHeld2; clear hHeld2
  try simp only [Act.put, List.setIfInBounds_toArray, List.set_cons_zero, List.set_cons_succ]
  refine wpAnyH_ready (rs := [8]) (by kernel_rfl) (by simp) ?_
  refine AllReadyH.cons (o := ⟨_, _, _, _, _, _⟩) rfl (fun K hK => ?_) AllReadyH.nil
  go_simp
  refine (gspan_any _ _ _).mono ?_
  rintro e V19 ⟨rfl, hb⟩
  go_wp2_with fail
  have hHeldN := hHeld.trans (hb.mono hHeld.size)
  have o13 := o13.bel hb
  have o15 := o15.bel hb
  have hbc := hbc.trans (hb.mono hbc.size)
  refine hK.out _ _ ?_ (fun hHeld2 => ?_)
  · exact hHeldN
  clear hK K hHeld hHeldN hb; have hHeld := hHeld2; clear hHeld2
  try simp only [Act.put, List.setIfInBounds_toArray, List.set_cons_zero, List.set_cons_succ]
  refine wpAnyH_take (i := 9) (oi := ⟨_, _, _, _, _, _⟩) (v := ?_) rfl (by kernel_rfl) (by kernel_rfl) (by kernel_rfl) (fun _ _ _ h => h) (Or.inl ⟨by rfl, ?_⟩) hHeld ?_
  rotate_left
  · (intro w hSw; (try dsimp only at hSw); go_simp; try (with_reducible rfl))
  try simp only [Act.put, List.setIfInBounds_toArray, List.set_cons_zero, List.set_cons_succ]
  refine wpAnyH_ready (rs := [10]) (by kernel_rfl) (by simp) ?_
  refine AllReadyH.cons (o := ⟨_, _, _, _, _, _⟩) rfl (fun K hK => ?_) AllReadyH.nil
  go_simp
  obtain ⟨b21, V21, eb21, ev21, r21, hb⟩ := mk_row (cells := Ga.cells) V19 #[.int .i64 (k : Int), .int .i64 v, .int .i64 v] 64 [⟨k, ⟨v, v⟩⟩] rfl
  rw [ev21.out, eb21.out]
  have hHeldN := hHeld.trans (hb.mono hHeld.size)
  have o13 := o13.bel hb
  have o15 := o15.bel hb
  have hbc := hbc.trans (hb.mono hbc.size)
  refine hK.out _ _ ?_ (fun hHeld2 => ?_)
  · exact hHeldN
  clear hK K hHeld hHeldN hb; have hHeld := hHeld2; clear hHeld2
  try simp only [Act.put, List.setIfInBounds_toArray, List.set_cons_zero, List.set_cons_succ]
  refine wpAnyH_ready (rs := [11]) (by kernel_rfl) (by simp) ?_
  refine AllReadyH.cons (o := ⟨_, _, _, _, _, _⟩) rfl (fun K hK => ?_) AllReadyH.nil
  refine op_app (v := v15) (xs := l) (ys := [⟨k, ⟨v, v⟩⟩]) (n := 1) el_ga (.tmp 15) (.tmp 21) rfl rfl o15 rfl rfl r21 (by have := Hn1.out; omega) hHeld.size ?_
  intro v22 V22 o22 hg hat
  have hHeldN := own_grown o15 hHeld hg (Nat.le_refl _)
  refine hK.out _ _ ?_ (fun hHeld2 => ?_)
  · exact hHeldN
  clear hK K hHeld hHeldN hbc; have hHeld := hHeld2; clear hHeld2
  have hbc := Below.refl V22.heap.size V22
  try simp only [Act.put, List.setIfInBounds_toArray, List.set_cons_zero, List.set_cons_succ]
  refine wpAnyH_ready (rs := [12]) (by kernel_rfl) (by simp) ?_
  refine AllReadyH.cons (o := ⟨_, _, _, _, _, _⟩) rfl (fun K hK => ?_) AllReadyH.nil
  obtain ⟨A22, c22, rfl, r22⟩ := o22.rdn (n1 + 1) (by rw [List.length_append, ← Hn1.out]; rfl)
  go_simp
  refine (flows_any A A22 g s (l ++ [⟨k, ⟨v, v⟩⟩]) n c (n1 + 1) c22 _ Hn.out hm ((Hx.out.below hHeld).more hHeld.size) (by rw [List.length_append, ← Hn1.out]; rfl) (by omega) r22).mono ?_
  rintro e V23 ⟨v1, v2, rfl, o1, o2, hb⟩
  go_wp2_with fail
  have hHeldN := hHeld.trans (hb.mono hHeld.size)
  have o22 := o22.bel hb
  have hbc := hbc.trans (hb.mono hbc.size)
  refine hK.out _ _ ?_ (fun hHeld2 => ?_)
  · exact hHeldN
  clear hK K hHeld hHeldN hb; have hHeld := hHeld2; clear hHeld2
  try simp only [Act.put, List.setIfInBounds_toArray, List.set_cons_zero, List.set_cons_succ]
  refine wpAnyH_take (i := 13) (oi := ⟨_, _, _, _, _, _⟩) (v := ?_) rfl (by kernel_rfl) (by kernel_rfl) (by kernel_rfl) (fun _ _ _ h => h) (Or.inl ⟨by rfl, ?_⟩) hHeld ?_
  rotate_left
  · (intro w hSw; (try dsimp only at hSw); go_simp; try (with_reducible rfl))
  try simp only [Act.put, List.setIfInBounds_toArray, List.set_cons_zero, List.set_cons_succ]
  refine wpAnyH_take (i := 14) (oi := ⟨_, _, _, _, _, _⟩) (v := ?_) rfl (by kernel_rfl) (by kernel_rfl) (by kernel_rfl) (fun _ _ _ h => h) (Or.inl ⟨by rfl, ?_⟩) hHeld ?_
  rotate_left
  · (intro w hSw; (try dsimp only at hSw); go_simp; try (with_reducible rfl))
  try simp only [Act.put, List.setIfInBounds_toArray, List.set_cons_zero, List.set_cons_succ]
  refine wpAnyH_take (i := 15) (oi := ⟨_, _, _, _, _, _⟩) (v := ?_) rfl (by kernel_rfl) (by kernel_rfl) (by kernel_rfl) (fun _ _ _ h => h) (Or.inl ⟨by rfl, ?_⟩) hHeld ?_
  rotate_left
  · (intro w hSw; (try dsimp only at hSw); go_simp; try (with_reducible rfl))
  try simp only [Act.put, List.setIfInBounds_toArray, List.set_cons_zero, List.set_cons_succ]
  refine wpAnyH_take (i := 16) (oi := ⟨_, _, _, _, _, _⟩) (v := ?_) rfl (by kernel_rfl) (by kernel_rfl) (by kernel_rfl) (fun _ _ _ h => h) (Or.inl ⟨by rfl, ?_⟩) hHeld ?_
  rotate_left
  · (intro w hSw; (try dsimp only at hSw); go_simp; try (with_reducible rfl))
  try simp only [Act.put, List.setIfInBounds_toArray, List.set_cons_zero, List.set_cons_succ]
  refine wpAnyH_take (i := 17) (oi := ⟨_, _, _, _, _, _⟩) (v := ?_) rfl (by kernel_rfl) (by kernel_rfl) (by kernel_rfl) (fun _ _ _ h => h) (Or.inl ⟨by rfl, ?_⟩) hHeld ?_
  rotate_left
  · (intro w hSw; (try dsimp only at hSw); go_simp; try (with_reducible rfl))
  try simp only [Act.put, List.setIfInBounds_toArray, List.set_cons_zero, List.set_cons_succ]
  refine wpAnyH_take (i := 18) (oi := ⟨_, _, _, _, _, _⟩) (v := ?_) rfl (by kernel_rfl) (by kernel_rfl) (by kernel_rfl) (fun _ _ _ h => h) (Or.inl ⟨by rfl, ?_⟩) hHeld ?_
  rotate_left
  · (intro w hSw; (try dsimp only at hSw); go_simp; try (with_reducible rfl))
  try simp only [Act.put, List.setIfInBounds_toArray, List.set_cons_zero, List.set_cons_succ]
  refine wpAnyH_take (i := 19) (oi := ⟨_, _, _, _, _, _⟩) (v := ?_) rfl (by kernel_rfl) (by kernel_rfl) (by kernel_rfl) (fun _ _ _ h => h) (Or.inl ⟨by rfl, ?_⟩) hHeld ?_
  rotate_left
  · (intro w hSw; (try dsimp only at hSw); go_simp; try (with_reducible rfl))
  try simp only [Act.put, List.setIfInBounds_toArray, List.set_cons_zero, List.set_cons_succ]
  refine wpAnyH_done (by kernel_rfl) ?_ _
  have hB := hHeld
  clear hbc hHeld
  obtain ⟨er, her⟩ : ∃ er, er = flErr g s (l ++ [⟨(k : Int), ⟨v, v⟩⟩]) := ⟨_, rfl⟩
  rw [← her]
  have Her := hide her
  clear her
  go_wp2_with fail
  go_ret
  exact ⟨by rw [← Her.out]; first | rfl | simp, hB⟩
end Go.Proofs.Ytkmocikcohhdoaa
