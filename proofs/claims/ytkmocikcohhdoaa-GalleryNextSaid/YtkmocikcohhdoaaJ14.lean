/- The closures of GalleryNext, by contracts. -/
import Derived.Test.YtkmocikcohhdoaaJ10
import Derived.Test.YtkmocikcohhdoaaJA
import Derived.Test.YtkmocikcohhdoaaApp2
import Derived.Test.YtkmocikcohhdoaaH7
set_option linter.unusedVariables false
set_option linter.unusedSimpArgs false
namespace Go.Proofs.Ytkmocikcohhdoaa
open Go.RowKit Go.Shelf
attribute [local go_sem] ite_min ite_max
theorem stays_len2 {g : List Rc} {s t : Sp} {l : List Ga} {k : Nat} (hg : gOk g = true) (hs : Sp.ok 0 1000000 s = true) (ht : Sp.ok 0 1000000 t = true) (hv : ∀ x ∈ l, (0 ≤ x.shaft ∧ x.shaft ≤ g.length) ∧ x.flow.fine 13000000) (h29 : l.length ≤ 29) (hk : k ≤ g.length) (v : Int) (h0 : 0 ≤ v) (h1 : v ≤ 13000000) :
    (falE g s (l ++ [⟨k, ⟨v, v⟩⟩]) t = 0 ∧ (falL g s (l ++ [⟨k, ⟨v, v⟩⟩]) t).length = holds (hereK g s l t k) v) ∨ (falE g s (l ++ [⟨k, ⟨v, v⟩⟩]) t = 6 ∧ holds (hereK g s l t k) v = 0) := by
  have he := enter_ok (g := g) (s := s) (l := l ++ [⟨k, ⟨v, v⟩⟩]) hg hs (by rw [List.length_append]; simp; omega) (fun x hx => by
    rcases List.mem_append.1 hx with h | h
    · exact hv x h
    · obtain rfl : x = ⟨(k : Int), ⟨v, v⟩⟩ := by simpa using h
      exact ⟨⟨by show (0 : Int) ≤ (k : Int); omega, by show (k : Int) ≤ _; omega⟩, h0, Int.le_refl _, h1⟩)
  have hl := stays_len (s := s) (l := l) (gOk_fine hg) (okS_fine ht) hk v
  by_cases hn : falN g s (l ++ [⟨k, ⟨v, v⟩⟩]) t g.length = []
  · right
    rw [hn] at hl
    exact ⟨by unfold falE; rw [if_pos he, if_pos ht, if_pos hn], hl.symm⟩
  · left
    have hE : falE g s (l ++ [⟨k, ⟨v, v⟩⟩]) t = 0 := by unfold falE; rw [if_pos he, if_pos ht, if_neg hn]
    exact ⟨hE, by unfold falL; rw [if_pos hE, List.length_map]; exact hl⟩
set_option maxHeartbeats 4000000 in
set_option maxRecDepth 100000 in
theorem stays_any (A A1 : Option Addr) (g : List Rc) (s : Sp) (l : List Ga) (t : Sp) (n c n1 c1 k p7 p8 p20 p9 : Nat) (v : Int) (w : World) (hn : n = g.length) (hn12 : n ≤ 12) (hx : Rd w w.heap.size Rc.cells A g)
    (hnl : n1 = l.length) (h29 : n1 ≤ 29) (hx1 : Rd w w.heap.size Ga.cells A1 l) (at1 : Bx w p7 [.slice A n c]) (at2 : Bx w p8 [.int .i64 s.lo, .int .i64 s.hi]) (at3 : Bx w p20 [.slice A1 n1 c1]) (at4 : Bx w p9 [.int .i64 t.lo, .int .i64 t.hi])
    (hg : gOk g = true) (hs : Sp.ok 0 1000000 s = true) (ht : Sp.ok 0 1000000 t = true) (hv : ∀ x ∈ l, (0 ≤ x.shaft ∧ x.shaft ≤ g.length) ∧ x.flow.fine 13000000) (hk : k ≤ n) (h0 : 0 ≤ v) (h1 : v ≤ 13000000) :
    Calls Try.prog 42 #[.int .i64 (k : Int), .int .i64 v, .pointer (some ⟨p7, 0, none⟩), .pointer (some ⟨p8, 0, none⟩), .pointer (some ⟨p20, 0, none⟩), .pointer (some ⟨p9, 0, none⟩)] w fun e w' => e = .returned (.int .i64 (holds (hereK g s l t k) v : Nat)) ∧ Below w.heap.size w w' := by
  have Hp := hide (stays_len2 hg hs ht hv (by omega) (by rw [← hn]; exact hk) v h0 h1)
  have Hn := hide hn; have Hn1 := hide hnl; have Hx := hide hx; have Hx1 := hide hx1
  clear hn hnl hx hx1 hg hs ht hv
  go_enter Try.func42, Try.ntmps42
  go_wp2_with fail
  refine wp_region_held_drew (S := (fun W => Below w.heap.size w W)) (by kernel_rfl) (by (try dsimp only); exact (Below.refl _ _).drew) (fun hHeld => ?_)
  generalize World.drew w = Wd1 at hHeld ⊢
  have hbc := Below.refl Wd1.heap.size Wd1
  refine wpAnyH_take (i := 0) (oi := ⟨_, _, _, _, _, _⟩) (v := ?_) rfl (by kernel_rfl) (by kernel_rfl) (by kernel_rfl) (fun _ _ _ h => h) (Or.inl ⟨by rfl, ?_⟩) hHeld ?_
  rotate_left
  · (intro w hSw; (try dsimp only at hSw); have x1 := (at1.bel hSw).at_.c1; obtain ⟨q0, q1, _, _⟩ := (at2.bel hSw).w2; have x3 := (at3.bel hSw).at_.c1; obtain ⟨p0, p1, _, _⟩ := (at4.bel hSw).w2; go_simp; try (with_reducible rfl))
  try simp only [Act.put, List.setIfInBounds_toArray, List.set_cons_zero, List.set_cons_succ]
  refine wpAnyH_take (i := 1) (oi := ⟨_, _, _, _, _, _⟩) (v := ?_) rfl (by kernel_rfl) (by kernel_rfl) (by kernel_rfl) (fun _ _ _ h => h) (Or.inl ⟨by rfl, ?_⟩) hHeld ?_
  rotate_left
  · (intro w hSw; (try dsimp only at hSw); have x1 := (at1.bel hSw).at_.c1; obtain ⟨q0, q1, _, _⟩ := (at2.bel hSw).w2; have x3 := (at3.bel hSw).at_.c1; obtain ⟨p0, p1, _, _⟩ := (at4.bel hSw).w2; go_simp; try (with_reducible rfl))
  try simp only [Act.put, List.setIfInBounds_toArray, List.set_cons_zero, List.set_cons_succ]
  refine wpAnyH_take (i := 3) (oi := ⟨_, _, _, _, _, _⟩) (v := ?_) rfl (by kernel_rfl) (by kernel_rfl) (by kernel_rfl) (fun _ _ _ h => h) (Or.inl ⟨by rfl, ?_⟩) hHeld ?_
  rotate_left
  · (intro w hSw; (try dsimp only at hSw); have x1 := (at1.bel hSw).at_.c1; obtain ⟨q0, q1, _, _⟩ := (at2.bel hSw).w2; have x3 := (at3.bel hSw).at_.c1; obtain ⟨p0, p1, _, _⟩ := (at4.bel hSw).w2; go_simp; try (with_reducible rfl))
  try simp only [Act.put, List.setIfInBounds_toArray, List.set_cons_zero, List.set_cons_succ]
  refine wpAnyH_take (i := 5) (oi := ⟨_, _, _, _, _, _⟩) (v := ?_) rfl (by kernel_rfl) (by kernel_rfl) (by kernel_rfl) (fun _ _ _ h => h) (Or.inl ⟨by rfl, ?_⟩) hHeld ?_
  rotate_left
  · (intro w hSw; (try dsimp only at hSw); go_simp; try (with_reducible rfl))
  try simp only [Act.put, List.setIfInBounds_toArray, List.set_cons_zero, List.set_cons_succ]
  refine wpAnyH_take (i := 6) (oi := ⟨_, _, _, _, _, _⟩) (v := ?_) rfl (by kernel_rfl) (by kernel_rfl) (by kernel_rfl) (fun _ _ _ h => h) (Or.inl ⟨by rfl, ?_⟩) hHeld ?_
  rotate_left
  · (intro w hSw; (try dsimp only at hSw); go_simp; try (with_reducible rfl))
  try simp only [Act.put, List.setIfInBounds_toArray, List.set_cons_zero, List.set_cons_succ]
  refine wpAnyH_take (i := 7) (oi := ⟨_, _, _, _, _, _⟩) (v := ?_) rfl (by kernel_rfl) (by kernel_rfl) (by kernel_rfl) (fun _ _ _ h => h) (Or.inl ⟨by rfl, ?_⟩) hHeld ?_
  rotate_left
  · (intro w hSw; (try dsimp only at hSw); go_simp; try (with_reducible rfl))
  try simp only [Act.put, List.setIfInBounds_toArray, List.set_cons_zero, List.set_cons_succ]
  refine wpAnyH_take (i := 12) (oi := ⟨_, _, _, _, _, _⟩) (v := ?_) rfl (by kernel_rfl) (by kernel_rfl) (by kernel_rfl) (fun _ _ _ h => h) (Or.inl ⟨by rfl, ?_⟩) hHeld ?_
  rotate_left
  · (intro w hSw; (try dsimp only at hSw); have x1 := (at1.bel hSw).at_.c1; obtain ⟨q0, q1, _, _⟩ := (at2.bel hSw).w2; have x3 := (at3.bel hSw).at_.c1; obtain ⟨p0, p1, _, _⟩ := (at4.bel hSw).w2; go_simp; try (with_reducible rfl))
  try simp only [Act.put, List.setIfInBounds_toArray, List.set_cons_zero, List.set_cons_succ]
  refine wpAnyH_ready (rs := [2]) (by kernel_rfl) (by simp) ?_
  refine AllReadyH.cons (o := ⟨_, _, _, _, _, _⟩) rfl (fun K hK => ?_) AllReadyH.nil
  go_simp
  obtain ⟨b15, V15, eb15, ev15, o15, hb⟩ := mk_own (cells := Ga.cells) Wd1 #[] 64 3 [] Ga.len rfl (by decide) w.heap.size hHeld.size
  rw [ev15.out, eb15.out]
  have hHeldN := hHeld.trans (hb.mono hHeld.size)
  have hbc := hbc.trans (hb.mono hbc.size)
  refine hK.out _ _ ?_ (fun hHeld2 => ?_)
  · exact hHeldN
  clear hK K hHeld hHeldN hb; have hHeld := hHeld2; clear hHeld2
  try simp only [Act.put, List.setIfInBounds_toArray, List.set_cons_zero, List.set_cons_succ]
  refine wpAnyH_ready (rs := [4]) (by kernel_rfl) (by simp) ?_
  refine AllReadyH.cons (o := ⟨_, _, _, _, _, _⟩) rfl (fun K hK => ?_) AllReadyH.nil
  refine op_fresh el_ga (.tmp 15) (.tmp 16) rfl rfl o15 Hn1.out.symm rfl ((Hx1.out.below hHeld).more hHeld.size) (by omega) hHeld.size ?_
  intro v17 V17 o17 hb _
  have hHeldN := hHeld.trans (hb.mono hHeld.size)
  have o15 := o15.bel hb
  have hbc := hbc.trans (hb.mono hbc.size)
  refine hK.out _ _ ?_ (fun hHeld2 => ?_)
  · exact hHeldN
  clear hK K hHeld hHeldN hb; have hHeld := hHeld2; clear hHeld2
  try simp only [Act.put, List.setIfInBounds_toArray, List.set_cons_zero, List.set_cons_succ]
  refine wpAnyH_ready (rs := [8]) (by kernel_rfl) (by simp) ?_
  refine AllReadyH.cons (o := ⟨_, _, _, _, _, _⟩) rfl (fun K hK => ?_) AllReadyH.nil
  go_simp
  refine (gspan_any _ _ _).mono ?_
  rintro e V21 ⟨rfl, hb⟩
  go_wp2_with fail
  have hHeldN := hHeld.trans (hb.mono hHeld.size)
  have o15 := o15.bel hb
  have o17 := o17.bel hb
  have hbc := hbc.trans (hb.mono hbc.size)
  refine hK.out _ _ ?_ (fun hHeld2 => ?_)
  · exact hHeldN
  clear hK K hHeld hHeldN hb; have hHeld := hHeld2; clear hHeld2
  try simp only [Act.put, List.setIfInBounds_toArray, List.set_cons_zero, List.set_cons_succ]
  refine wpAnyH_take (i := 9) (oi := ⟨_, _, _, _, _, _⟩) (v := ?_) rfl (by kernel_rfl) (by kernel_rfl) (by kernel_rfl) (fun _ _ _ h => h) (Or.inl ⟨by rfl, ?_⟩) hHeld ?_
  rotate_left
  · (intro w hSw; (try dsimp only at hSw); go_simp; try (with_reducible rfl))
  try simp only [Act.put, List.setIfInBounds_toArray, List.set_cons_zero, List.set_cons_succ]
  refine wpAnyH_ready (rs := [10]) (by kernel_rfl) (by simp) ?_
  refine AllReadyH.cons (o := ⟨_, _, _, _, _, _⟩) rfl (fun K hK => ?_) AllReadyH.nil
  go_simp
  obtain ⟨b23, V23, eb23, ev23, r23, hb⟩ := mk_row (cells := Ga.cells) V21 #[.int .i64 (k : Int), .int .i64 v, .int .i64 v] 64 [⟨k, ⟨v, v⟩⟩] rfl
  rw [ev23.out, eb23.out]
  have hHeldN := hHeld.trans (hb.mono hHeld.size)
  have o15 := o15.bel hb
  have o17 := o17.bel hb
  have hbc := hbc.trans (hb.mono hbc.size)
  refine hK.out _ _ ?_ (fun hHeld2 => ?_)
  · exact hHeldN
  clear hK K hHeld hHeldN hb; have hHeld := hHeld2; clear hHeld2
  try simp only [Act.put, List.setIfInBounds_toArray, List.set_cons_zero, List.set_cons_succ]
  refine wpAnyH_ready (rs := [11]) (by kernel_rfl) (by simp) ?_
  refine AllReadyH.cons (o := ⟨_, _, _, _, _, _⟩) rfl (fun K hK => ?_) AllReadyH.nil
  refine op_app (v := v17) (xs := l) (ys := [⟨k, ⟨v, v⟩⟩]) (n := 1) el_ga (.tmp 17) (.tmp 23) rfl rfl o17 rfl rfl r23 (by have := Hn1.out; omega) hHeld.size ?_
  intro v24 V24 o24 hg hat
  have hHeldN := own_grown o17 hHeld hg (Nat.le_refl _)
  refine hK.out _ _ ?_ (fun hHeld2 => ?_)
  · exact hHeldN
  clear hK K hHeld hHeldN hbc; have hHeld := hHeld2; clear hHeld2
  have hbc := Below.refl V24.heap.size V24
  try simp only [Act.put, List.setIfInBounds_toArray, List.set_cons_zero, List.set_cons_succ]
  refine wpAnyH_ready (rs := [13]) (by kernel_rfl) (by simp) ?_
  refine AllReadyH.cons (o := ⟨_, _, _, _, _, _⟩) rfl (fun K hK => ?_) AllReadyH.nil
  obtain ⟨A24, c24, rfl, r24⟩ := o24.rdn (n1 + 1) (by rw [List.length_append, ← Hn1.out]; rfl)
  go_simp
  refine (falls_any A A24 g s (l ++ [⟨k, ⟨v, v⟩⟩]) t n c (n1 + 1) c24 _ Hn.out (by omega) ((Hx.out.below hHeld).more hHeld.size) (by rw [List.length_append, ← Hn1.out]; rfl) (by omega) r24).mono ?_
  rintro e V26 ⟨v9, rfl, o9, hb⟩
  go_wp2_with fail
  have hHeldN := hHeld.trans (hb.mono hHeld.size)
  have o24 := o24.bel hb
  have hbc := hbc.trans (hb.mono hbc.size)
  refine hK.out _ _ ?_ (fun hHeld2 => ?_)
  · exact hHeldN
  clear hK K hHeld hHeldN hb; have hHeld := hHeld2; clear hHeld2
  try simp only [Act.put, List.setIfInBounds_toArray, List.set_cons_zero, List.set_cons_succ]
  refine wpAnyH_take (i := 14) (oi := ⟨_, _, _, _, _, _⟩) (v := ?_) rfl (by kernel_rfl) (by kernel_rfl) (by kernel_rfl) (fun _ _ _ h => h) (Or.inl ⟨by rfl, ?_⟩) hHeld ?_
  rotate_left
  · (intro w hSw; (try dsimp only at hSw); go_simp; try (with_reducible rfl))
  try simp only [Act.put, List.setIfInBounds_toArray, List.set_cons_zero, List.set_cons_succ]
  refine wpAnyH_take (i := 15) (oi := ⟨_, _, _, _, _, _⟩) (v := ?_) rfl (by kernel_rfl) (by kernel_rfl) (by kernel_rfl) (fun _ _ _ h => h) (Or.inl ⟨by rfl, ?_⟩) hHeld ?_
  rotate_left
  · (intro w hSw; (try dsimp only at hSw); go_simp; try (with_reducible rfl))
  try simp only [Act.put, List.setIfInBounds_toArray, List.set_cons_zero, List.set_cons_succ]
  refine wpAnyH_take (i := 16) (oi := ⟨_, _, _, _, _, _⟩) (v := ?_) rfl (by kernel_rfl) (by kernel_rfl) (by kernel_rfl) (fun _ _ _ h => h) (Or.inl ⟨by rfl, ?_⟩) hHeld ?_
  rotate_left
  · (intro w hSw; (try dsimp only at hSw); go_simp; try (with_reducible rfl))
  try simp only [Act.put, List.setIfInBounds_toArray, List.set_cons_zero, List.set_cons_succ]
  refine wpAnyH_take (i := 17) (oi := ⟨_, _, _, _, _, _⟩) (v := ?_) rfl (by kernel_rfl) (by kernel_rfl) (by kernel_rfl) (fun _ _ _ h => h) (Or.inl ⟨by rfl, ?_⟩) hHeld ?_
  rotate_left
  · (intro w hSw; (try dsimp only at hSw); go_simp; try (with_reducible rfl))
  try simp only [Act.put, List.setIfInBounds_toArray, List.set_cons_zero, List.set_cons_succ]
  refine wpAnyH_take (i := 18) (oi := ⟨_, _, _, _, _, _⟩) (v := ?_) rfl (by kernel_rfl) (by kernel_rfl) (by kernel_rfl) (fun _ _ _ h => h) (Or.inl ⟨by rfl, ?_⟩) hHeld ?_
  rotate_left
  · (intro w hSw; (try dsimp only at hSw); go_simp; try (with_reducible rfl))
  try simp only [Act.put, List.setIfInBounds_toArray, List.set_cons_zero, List.set_cons_succ]
  refine wpAnyH_take (i := 19) (oi := ⟨_, _, _, _, _, _⟩) (v := ?_) rfl (by kernel_rfl) (by kernel_rfl) (by kernel_rfl) (fun _ _ _ h => h) (Or.inl ⟨by rfl, ?_⟩) hHeld ?_
  rotate_left
  · (intro w hSw; (try dsimp only at hSw); go_simp; try (with_reducible rfl))
  try simp only [Act.put, List.setIfInBounds_toArray, List.set_cons_zero, List.set_cons_succ]
  refine wpAnyH_take (i := 20) (oi := ⟨_, _, _, _, _, _⟩) (v := ?_) rfl (by kernel_rfl) (by kernel_rfl) (by kernel_rfl) (fun _ _ _ h => h) (Or.inl ⟨by rfl, ?_⟩) hHeld ?_
  rotate_left
  · (intro w hSw; (try dsimp only at hSw); go_simp; try (with_reducible rfl))
  try simp only [Act.put, List.setIfInBounds_toArray, List.set_cons_zero, List.set_cons_succ]
  refine wpAnyH_done (by kernel_rfl) ?_ _
  have hB := hHeld
  clear hbc hHeld
  obtain ⟨m, hm⟩ : ∃ m, m = (falL g s (l ++ [⟨k, ⟨v, v⟩⟩]) t).length := ⟨_, rfl⟩
  obtain ⟨A9, c9, rfl, r9⟩ := o9.rdn m hm.symm
  rcases Hp.out with ⟨hE, hL⟩ | ⟨hE, hL⟩
  · rw [hE]
    have Hm := hide (hm.trans hL)
    clear hE hL hm r9 o9
    go_wp2_with fail
    go_ret
    exact ⟨by rw [Hm.out]; rfl, hB⟩
  · rw [hE]
    have HL := hide hL
    clear hE hL hm r9 o9
    go_wp2_with fail
    go_ret
    exact ⟨by rw [HL.out]; rfl, hB⟩
/-- What may flow at a shaft with the fall in reach i. -/
theorem here_get {g : List Rc} {s t : Sp} {l : List Ga} {k j i : Nat} {F : List Sp} (hi : ((falN g s l t g.length).map Int.ofNat)[j]? = some (i : Int)) (hF : fitF g s l t i = some F) : (hereK g s l t k)[j]? = some (F.getD k allS) := by
  unfold hereK
  rw [List.getElem?_map] at hi ⊢
  obtain ⟨i', hi', e⟩ := Option.map_eq_some_iff.1 hi
  have e' : i' = i := Int.ofNat.inj e
  subst e'
  rw [hi', Option.map_some, hF]
  rfl
theorem told_fine2 {g : List Rc} {s t : Sp} {l : List Ga} {i : Nat} {F : List Sp} (hg : gOk g = true) (hs : Sp.ok 0 1000000 s = true) (ht : Sp.ok 0 1000000 t = true) (h30 : l.length ≤ 30) (hv : ∀ x ∈ l, (0 ≤ x.shaft ∧ x.shaft ≤ g.length) ∧ x.flow.fine 13000000) (hF : fitF g s l t i = some F) : ∀ x ∈ F, x.fine 13000000 := by
  have he := enter_ok (g := fallS g i t) (s := s) (l := l) (fallS_ok hg ht i) hs h30 (by rw [fallS_len]; exact hv)
  obtain ⟨hok, hg12, hl30, hfine, hs1, hga, hgf⟩ := enter_parts he
  exact flowsF_fine _ _ _ _ hfine (rdS_bd (fallS g i t).length l hgf) (by obtain ⟨b1, b2, b3⟩ := hs1; exact ⟨b1, b2, by omega⟩) hF
set_option maxHeartbeats 4000000 in
set_option maxRecDepth 100000 in
theorem mostn_any (A A1 Al : Option Addr) (g : List Rc) (s : Sp) (l : List Ga) (t : Sp) (n c n1 c1 nl cl k p7 p8 p20 p9 p24 p27 : Nat) (w : World) (hn : n = g.length) (hn12 : n ≤ 12) (hx : Rd w w.heap.size Rc.cells A g)
    (hnl : n1 = l.length) (h29 : n1 ≤ 29) (hx1 : Rd w w.heap.size Ga.cells A1 l) (hll : nl = ((falN g s l t g.length).map Int.ofNat).length) (hxl : Rd w w.heap.size icell Al ((falN g s l t g.length).map Int.ofNat))
    (at1 : Bx w p7 [.slice A n c]) (at2 : Bx w p8 [.int .i64 s.lo, .int .i64 s.hi]) (at3 : Bx w p20 [.slice A1 n1 c1]) (at4 : Bx w p9 [.int .i64 t.lo, .int .i64 t.hi]) (at5 : Bx w p24 [.slice Al nl cl])
    (at6 : Bx w p27 [.func (.func 42) #[] #[.pointer (some ⟨p7, 0, none⟩), .pointer (some ⟨p8, 0, none⟩), .pointer (some ⟨p20, 0, none⟩), .pointer (some ⟨p9, 0, none⟩)]])
    (hg : gOk g = true) (hs : Sp.ok 0 1000000 s = true) (ht : Sp.ok 0 1000000 t = true) (hv : ∀ x ∈ l, (0 ≤ x.shaft ∧ x.shaft ≤ g.length) ∧ x.flow.fine 13000000) (hk : k ≤ n) :
    Calls Try.prog 43 #[.int .i64 (k : Int), .pointer (some ⟨p24, 0, none⟩), .pointer (some ⟨p7, 0, none⟩), .pointer (some ⟨p9, 0, none⟩), .pointer (some ⟨p8, 0, none⟩), .pointer (some ⟨p20, 0, none⟩), .pointer (some ⟨p27, 0, none⟩)] w fun e w' => e = .returned (.int .i64 (crowdS (hereK g s l t k) : Nat)) ∧ Below w.heap.size w w' := by
  have hnl12 : nl ≤ 12 := by have := falN_len (g := g) (s := s) (l := l) (t := t) g.length; rw [hll, List.length_map]; omega
  have Hn := hide hn; have Hn1 := hide hnl; have Hx := hide hx; have Hx1 := hide hx1; have Hll := hide hll; have Hxl := hide hxl; have Hg := hide hg; have Hso := hide hs; have Hto := hide ht; have Hv := hide hv
  clear hn hnl hx hx1 hg hs ht hv hll hxl
  have x5 := at5.w1.1
  go_enter Try.func43, Try.ntmps43
  go_wp2_with fail
  go_loopw [9, 17] (fun m i wq => ∃ j : Nat, j ≤ nl ∧ i = .int .i64 j ∧ m = .int .i64 (crowdT (hereK g s l t k) j : Nat) ∧ Below w.heap.size w wq) (fun _ i _ => nl - (intOf i).toNat)
  case atStart => exact ⟨0, by omega, rfl, rfl, Below.refl _ _⟩
  case round =>
    obtain ⟨j, hj, rfl, rfl, hb⟩ := hrel
    have hct := crowdT_le (hereK g s l t k) j
    rw [hereK_len] at hct
    have hfl := falN_len (g := g) (s := s) (l := l) (t := t) g.length
    have hct12 : crowdT (hereK g s l t k) j ≤ 12 := by have := Hn.out; omega
    clear hct hfl
    by_cases hlt : j < nl
    · obtain ⟨b1, o1, y, rfl, hb1, hyk, c0⟩ := (Hxl.out.bel hb).int (i := j) (by rw [← Hll.out]; exact hlt)
      obtain ⟨i, rfl, hi, hfi⟩ := fal_get hyk
      rw [← Hn.out] at hi
      obtain ⟨F, hF⟩ := Option.isSome_iff_exists.1 hfi
      have hFl : F.length = n + 1 := by rw [fitF_len hF, Hn.out]
      have hfe : flErr (fallS g i t) s l = 0 := by rw [fall_err Hg.out Hso.out Hto.out (by rw [← Hn1.out]; omega) Hv.out i, hfi]; rfl
      have hfL : flL (fallS g i t) s l = F := by unfold flL; rw [if_pos hfe]; unfold fitF at hF; rw [hF]; rfl
      have Hget := hide (here_get (k := k) hyk hF)
      have hfine : ∀ x ∈ F, x.fine 13000000 := told_fine2 Hg.out Hso.out Hto.out (by rw [← Hn1.out]; omega) Hv.out hF
      have x2 := (at1.bel hb).w1.1
      have Hb := hide hb; have HFl := hide hFl; have Hfe := hide hfe; have HfL := hide hfL; have Hfine := hide hfine
      have hi1 : ¬ n ≤ i := by omega
      have hi2 : ¬ (i : Int) < 0 := by omega
      clear hyk hfi hF hFl hfe hfL hb hfine x5
      go_wp2_with fail
      refine wp_region_held_drew (S := (fun W => Below wr.heap.size wr W)) (by kernel_rfl) (by (try dsimp only); exact (Below.refl _ _).drew) (fun hHeld => ?_)
      generalize World.drew wr = Wd7 at hHeld ⊢
      have hbc := Below.refl Wd7.heap.size Wd7
      refine wpAnyH_take (i := 0) (oi := ⟨_, _, _, _, _, _⟩) (v := ?_) rfl (by kernel_rfl) (by kernel_rfl) (by kernel_rfl) (fun _ _ _ h => h) (Or.inl ⟨by rfl, ?_⟩) hHeld ?_
      rotate_left
      · (intro w hSw; (try dsimp only at hSw); have x2 := ((at1.bel Hb.out).bel hSw).at_.c1; obtain ⟨p0, p1, _, _⟩ := ((at4.bel Hb.out).bel hSw).w2; obtain ⟨q0, q1, _, _⟩ := ((at2.bel Hb.out).bel hSw).w2; have x3 := ((at3.bel Hb.out).bel hSw).at_.c1; go_simp; try (with_reducible rfl))
      try simp only [Act.put, List.setIfInBounds_toArray, List.set_cons_zero, List.set_cons_succ]
      refine wpAnyH_take (i := 1) (oi := ⟨_, _, _, _, _, _⟩) (v := ?_) rfl (by kernel_rfl) (by kernel_rfl) (by kernel_rfl) (fun _ _ _ h => h) (Or.inl ⟨by rfl, ?_⟩) hHeld ?_
      rotate_left
      · (intro w hSw; (try dsimp only at hSw); go_simp; try (with_reducible rfl))
      try simp only [Act.put, List.setIfInBounds_toArray, List.set_cons_zero, List.set_cons_succ]
      refine wpAnyH_take (i := 2) (oi := ⟨_, _, _, _, _, _⟩) (v := ?_) rfl (by kernel_rfl) (by kernel_rfl) (by kernel_rfl) (fun _ _ _ h => h) (Or.inl ⟨by rfl, ?_⟩) hHeld ?_
      rotate_left
      · (intro w hSw; (try dsimp only at hSw); have x2 := ((at1.bel Hb.out).bel hSw).at_.c1; obtain ⟨p0, p1, _, _⟩ := ((at4.bel Hb.out).bel hSw).w2; obtain ⟨q0, q1, _, _⟩ := ((at2.bel Hb.out).bel hSw).w2; have x3 := ((at3.bel Hb.out).bel hSw).at_.c1; go_simp; try (with_reducible rfl))
      try simp only [Act.put, List.setIfInBounds_toArray, List.set_cons_zero, List.set_cons_succ]
      refine wpAnyH_take (i := 4) (oi := ⟨_, _, _, _, _, _⟩) (v := ?_) rfl (by kernel_rfl) (by kernel_rfl) (by kernel_rfl) (fun _ _ _ h => h) (Or.inl ⟨by rfl, ?_⟩) hHeld ?_
      rotate_left
      · (intro w hSw; (try dsimp only at hSw); have x2 := ((at1.bel Hb.out).bel hSw).at_.c1; obtain ⟨p0, p1, _, _⟩ := ((at4.bel Hb.out).bel hSw).w2; obtain ⟨q0, q1, _, _⟩ := ((at2.bel Hb.out).bel hSw).w2; have x3 := ((at3.bel Hb.out).bel hSw).at_.c1; go_simp; try (with_reducible rfl))
      try simp only [Act.put, List.setIfInBounds_toArray, List.set_cons_zero, List.set_cons_succ]
      refine wpAnyH_take (i := 5) (oi := ⟨_, _, _, _, _, _⟩) (v := ?_) rfl (by kernel_rfl) (by kernel_rfl) (by kernel_rfl) (fun _ _ _ h => h) (Or.inl ⟨by rfl, ?_⟩) hHeld ?_
      rotate_left
      · (intro w hSw; (try dsimp only at hSw); have x2 := ((at1.bel Hb.out).bel hSw).at_.c1; obtain ⟨p0, p1, _, _⟩ := ((at4.bel Hb.out).bel hSw).w2; obtain ⟨q0, q1, _, _⟩ := ((at2.bel Hb.out).bel hSw).w2; have x3 := ((at3.bel Hb.out).bel hSw).at_.c1; go_simp; try (with_reducible rfl))
      try simp only [Act.put, List.setIfInBounds_toArray, List.set_cons_zero, List.set_cons_succ]
      refine wpAnyH_ready (rs := [3]) (by kernel_rfl) (by simp) ?_
      refine AllReadyH.cons (o := ⟨_, _, _, _, _, _⟩) rfl (fun K hK => ?_) AllReadyH.nil
      go_simp
      refine (rfallen_any A g t i n c _ Hn.out hi (by omega) ((Hx.out.below (Hb.out.trans (hHeld.mono Hb.out.size))).more (Hb.out.trans (hHeld.mono Hb.out.size)).size)).mono ?_
      rintro e V33 ⟨q33, c33, rfl, o33, hb⟩
      go_wp2_with fail
      have hHeldN := hHeld.trans (hb.mono hHeld.size)
      have hbc := hbc.trans (hb.mono hbc.size)
      refine hK.out _ _ ?_ (fun hHeld2 => ?_)
      · exact hHeldN
      clear hK K hHeld hHeldN hb; have hHeld := hHeld2; clear hHeld2
      try simp only [Act.put, List.setIfInBounds_toArray, List.set_cons_zero, List.set_cons_succ]
      refine wpAnyH_ready (rs := [6]) (by kernel_rfl) (by simp) ?_
      refine AllReadyH.cons (o := ⟨_, _, _, _, _, _⟩) rfl (fun K hK => ?_) AllReadyH.nil
      obtain ⟨_, _, ec33, r33⟩ := o33.rdn n (by rw [fallS_len]; exact Hn.out.symm)
      injection ec33 with e1 e2 e3
      subst e1; subst e3
      go_simp
      refine (flows_any (some ⟨q33, 0, none⟩) A1 (fallS g i t) s l n c33 n1 c1 _ (by rw [fallS_len]; exact Hn.out) (by omega) r33 Hn1.out (by omega) ((Hx1.out.below (Hb.out.trans (hHeld.mono Hb.out.size))).more (Hb.out.trans (hHeld.mono Hb.out.size)).size)).mono ?_
      rintro e V36 ⟨v12, v13, rfl, o12, _, hb⟩
      go_wp2_with fail
      have hHeldN := hHeld.trans (hb.mono hHeld.size)
      have o33 := o33.bel hb
      have hbc := hbc.trans (hb.mono hbc.size)
      refine hK.out _ _ ?_ (fun hHeld2 => ?_)
      · exact hHeldN
      clear hK K hHeld hHeldN hb; have hHeld := hHeld2; clear hHeld2
      try simp only [Act.put, List.setIfInBounds_toArray, List.set_cons_zero, List.set_cons_succ]
      refine wpAnyH_take (i := 7) (oi := ⟨_, _, _, _, _, _⟩) (v := ?_) rfl (by kernel_rfl) (by kernel_rfl) (by kernel_rfl) (fun _ _ _ h => h) (Or.inl ⟨by rfl, ?_⟩) hHeld ?_
      rotate_left
      · (intro w hSw; (try dsimp only at hSw); go_simp; try (with_reducible rfl))
      try simp only [Act.put, List.setIfInBounds_toArray, List.set_cons_zero, List.set_cons_succ]
      refine wpAnyH_take (i := 8) (oi := ⟨_, _, _, _, _, _⟩) (v := ?_) rfl (by kernel_rfl) (by kernel_rfl) (by kernel_rfl) (fun _ _ _ h => h) (Or.inl ⟨by rfl, ?_⟩) hHeld ?_
      rotate_left
      · (intro w hSw; (try dsimp only at hSw); go_simp; try (with_reducible rfl))
      try simp only [Act.put, List.setIfInBounds_toArray, List.set_cons_zero, List.set_cons_succ]
      refine wpAnyH_take (i := 9) (oi := ⟨_, _, _, _, _, _⟩) (v := ?_) rfl (by kernel_rfl) (by kernel_rfl) (by kernel_rfl) (fun _ _ _ h => h) (Or.inl ⟨by rfl, ?_⟩) hHeld ?_
      rotate_left
      · (intro w hSw; (try dsimp only at hSw); go_simp; try (with_reducible rfl))
      try simp only [Act.put, List.setIfInBounds_toArray, List.set_cons_zero, List.set_cons_succ]
      refine wpAnyH_take (i := 10) (oi := ⟨_, _, _, _, _, _⟩) (v := ?_) rfl (by kernel_rfl) (by kernel_rfl) (by kernel_rfl) (fun _ _ _ h => h) (Or.inl ⟨by rfl, ?_⟩) hHeld ?_
      rotate_left
      · (intro w hSw; (try dsimp only at hSw); go_simp; try (with_reducible rfl))
      try simp only [Act.put, List.setIfInBounds_toArray, List.set_cons_zero, List.set_cons_succ]
      refine wpAnyH_take (i := 11) (oi := ⟨_, _, _, _, _, _⟩) (v := ?_) rfl (by kernel_rfl) (by kernel_rfl) (by kernel_rfl) (fun _ _ _ h => h) (Or.inl ⟨by rfl, ?_⟩) hHeld ?_
      rotate_left
      · (intro w hSw; (try dsimp only at hSw); go_simp; try (with_reducible rfl))
      try simp only [Act.put, List.setIfInBounds_toArray, List.set_cons_zero, List.set_cons_succ]
      refine wpAnyH_take (i := 12) (oi := ⟨_, _, _, _, _, _⟩) (v := ?_) rfl (by kernel_rfl) (by kernel_rfl) (by kernel_rfl) (fun _ _ _ h => h) (Or.inl ⟨by rfl, ?_⟩) hHeld ?_
      rotate_left
      · (intro w hSw; (try dsimp only at hSw); go_simp; try (with_reducible rfl))
      try simp only [Act.put, List.setIfInBounds_toArray, List.set_cons_zero, List.set_cons_succ]
      refine wpAnyH_take (i := 13) (oi := ⟨_, _, _, _, _, _⟩) (v := ?_) rfl (by kernel_rfl) (by kernel_rfl) (by kernel_rfl) (fun _ _ _ h => h) (Or.inl ⟨by rfl, ?_⟩) hHeld ?_
      rotate_left
      · (intro w hSw; (try dsimp only at hSw); go_simp; try (with_reducible rfl))
      try simp only [Act.put, List.setIfInBounds_toArray, List.set_cons_zero, List.set_cons_succ]
      refine wpAnyH_done (by kernel_rfl) ?_ _
      rw [Hfe.out]
      rw [HfL.out] at o12
      obtain ⟨Af, cf, rfl, rf⟩ := o12.rdn (n + 1) HFl.out
      obtain ⟨bf, of_, flo, fhi, rfl, hbf, hfk, cfl, cf1⟩ := rf.sp (i := k) (by rw [HFl.out]; omega)
      have hfine := Hfine.out _ (List.mem_of_getElem? hfk)
      have hfl0 : 0 ≤ flo ∧ flo ≤ 13000000 := by obtain ⟨h1, h2, h3⟩ := hfine; dsimp only at h1 h2 h3; omega
      have hg2 := Hget.out
      rw [List.getD_eq_getElem?_getD, hfk, Option.getD_some] at hg2
      have hsn := crowdT_snoc hg2
      dsimp only at hsn
      have hh12 : holds (hereK g s l t k) flo ≤ 12 := by
        have h1 := holds_len (hereK g s l t k) flo
        rw [hereK_len] at h1
        have h2 := falN_len (g := g) (s := s) (l := l) (t := t) g.length
        have := Hn.out; omega
      have Hsn := hide hsn
      obtain ⟨w10, rfl⟩ : ∃ w10, w10 = V36 := ⟨V36, rfl⟩
      have HB10 := hide (Hb.out.trans (hHeld.mono Hb.out.size))
      have x2 := (at1.bel HB10.out).w1.1
      have ik : (k : Int) < (n : Int) + 1 := by omega
      clear hHeld hbc o12 rf hfk hfine hg2 hsn o33 r33
      go_wp2_with fail
      refine wp_region_held_drew (S := (fun W => Below w10.heap.size w10 W)) (by kernel_rfl) (by (try dsimp only); exact (Below.refl _ _).drew) (fun hHeld => ?_)
      generalize World.drew w10 = Wd10 at hHeld ⊢
      have hbc := Below.refl Wd10.heap.size Wd10
      refine wpAnyH_take (i := 0) (oi := ⟨_, _, _, _, _, _⟩) (v := ?_) rfl (by kernel_rfl) (by kernel_rfl) (by kernel_rfl) (fun _ _ _ h => h) (Or.inl ⟨by rfl, ?_⟩) hHeld ?_
      rotate_left
      · (intro w hSw; (try dsimp only at hSw); go_simp; try (with_reducible rfl))
      try simp only [Act.put, List.setIfInBounds_toArray, List.set_cons_zero, List.set_cons_succ]
      refine wpAnyH_take (i := 1) (oi := ⟨_, _, _, _, _, _⟩) (v := ?_) rfl (by kernel_rfl) (by kernel_rfl) (by kernel_rfl) (fun _ _ _ h => h) (Or.inl ⟨by rfl, ?_⟩) hHeld ?_
      rotate_left
      · (intro w hSw; (try dsimp only at hSw); have x6 := ((at6.bel HB10.out).bel hSw).at_.c1; have z0 := (hSw.cell (p := ⟨bf, of_ + k * 2, none⟩) hbf).trans cfl; go_simp; try (with_reducible rfl))
      try simp only [Act.put, List.setIfInBounds_toArray, List.set_cons_zero, List.set_cons_succ]
      refine wpAnyH_take (i := 2) (oi := ⟨_, _, _, _, _, _⟩) (v := ?_) rfl (by kernel_rfl) (by kernel_rfl) (by kernel_rfl) (fun _ _ _ h => h) (Or.inl ⟨by rfl, ?_⟩) hHeld ?_
      rotate_left
      · (intro w hSw; (try dsimp only at hSw); go_simp; try (with_reducible rfl))
      try simp only [Act.put, List.setIfInBounds_toArray, List.set_cons_zero, List.set_cons_succ]
      refine wpAnyH_take (i := 3) (oi := ⟨_, _, _, _, _, _⟩) (v := ?_) rfl (by kernel_rfl) (by kernel_rfl) (by kernel_rfl) (fun _ _ _ h => h) (Or.inl ⟨by rfl, ?_⟩) hHeld ?_
      rotate_left
      · (intro w hSw; (try dsimp only at hSw); go_simp; try (with_reducible rfl))
      try simp only [Act.put, List.setIfInBounds_toArray, List.set_cons_zero, List.set_cons_succ]
      refine wpAnyH_take (i := 4) (oi := ⟨_, _, _, _, _, _⟩) (v := ?_) rfl (by kernel_rfl) (by kernel_rfl) (by kernel_rfl) (fun _ _ _ h => h) (Or.inl ⟨by rfl, ?_⟩) hHeld ?_
      rotate_left
      · (intro w hSw; (try dsimp only at hSw); go_simp; try (with_reducible rfl))
      try simp only [Act.put, List.setIfInBounds_toArray, List.set_cons_zero, List.set_cons_succ]
      refine wpAnyH_take (i := 5) (oi := ⟨_, _, _, _, _, _⟩) (v := ?_) rfl (by kernel_rfl) (by kernel_rfl) (by kernel_rfl) (fun _ _ _ h => h) (Or.inl ⟨by rfl, ?_⟩) hHeld ?_
      rotate_left
      · (intro w hSw; (try dsimp only at hSw); go_simp; try (with_reducible rfl))
      try simp only [Act.put, List.setIfInBounds_toArray, List.set_cons_zero, List.set_cons_succ]
      refine wpAnyH_take (i := 6) (oi := ⟨_, _, _, _, _, _⟩) (v := ?_) rfl (by kernel_rfl) (by kernel_rfl) (by kernel_rfl) (fun _ _ _ h => h) (Or.inl ⟨by rfl, ?_⟩) hHeld ?_
      rotate_left
      · (intro w hSw; (try dsimp only at hSw); go_simp; try (with_reducible rfl))
      try simp only [Act.put, List.setIfInBounds_toArray, List.set_cons_zero, List.set_cons_succ]
      refine wpAnyH_take (i := 7) (oi := ⟨_, _, _, _, _, _⟩) (v := ?_) rfl (by kernel_rfl) (by kernel_rfl) (by kernel_rfl) (fun _ _ _ h => h) (Or.inl ⟨by rfl, ?_⟩) hHeld ?_
      rotate_left
      · (intro w hSw; (try dsimp only at hSw); have x6 := ((at6.bel HB10.out).bel hSw).at_.c1; have z0 := (hSw.cell (p := ⟨bf, of_ + k * 2, none⟩) hbf).trans cfl; go_simp; try (with_reducible rfl))
      try simp only [Act.put, List.setIfInBounds_toArray, List.set_cons_zero, List.set_cons_succ]
      refine wpAnyH_ready (rs := [8]) (by kernel_rfl) (by simp) ?_
      refine AllReadyH.cons (o := ⟨_, _, _, _, _, _⟩) rfl (fun K hK => ?_) AllReadyH.nil
      go_simp
      refine (stays_any A A1 g s l t n c n1 c1 k p7 p8 p20 p9 flo _ Hn.out hn12 ((Hx.out.below (HB10.out.trans (hHeld.mono HB10.out.size))).more (HB10.out.trans (hHeld.mono HB10.out.size)).size) Hn1.out h29 ((Hx1.out.below (HB10.out.trans (hHeld.mono HB10.out.size))).more (HB10.out.trans (hHeld.mono HB10.out.size)).size) (at1.bel (HB10.out.trans (hHeld.mono HB10.out.size))) (at2.bel (HB10.out.trans (hHeld.mono HB10.out.size))) (at3.bel (HB10.out.trans (hHeld.mono HB10.out.size))) (at4.bel (HB10.out.trans (hHeld.mono HB10.out.size))) Hg.out Hso.out Hto.out Hv.out hk hfl0.1 hfl0.2).mono ?_
      rintro e V58 ⟨rfl, hb⟩
      go_wp2_with fail
      have hHeldN := hHeld.trans (hb.mono hHeld.size)
      have hbc := hbc.trans (hb.mono hbc.size)
      refine hK.out _ _ ?_ (fun hHeld2 => ?_)
      · exact hHeldN
      clear hK K hHeld hHeldN hb; have hHeld := hHeld2; clear hHeld2
      try simp only [Act.put, List.setIfInBounds_toArray, List.set_cons_zero, List.set_cons_succ]
      refine wpAnyH_take (i := 9) (oi := ⟨_, _, _, _, _, _⟩) (v := ?_) rfl (by kernel_rfl) (by kernel_rfl) (by kernel_rfl) (fun _ _ _ h => h) (Or.inl ⟨by rfl, ?_⟩) hHeld ?_
      rotate_left
      · (intro w hSw; (try dsimp only at hSw); go_simp; try (with_reducible rfl))
      try simp only [Act.put, List.setIfInBounds_toArray, List.set_cons_zero, List.set_cons_succ]
      refine wpAnyH_take (i := 10) (oi := ⟨_, _, _, _, _, _⟩) (v := ?_) rfl (by kernel_rfl) (by kernel_rfl) (by kernel_rfl) (fun _ _ _ h => h) (Or.inl ⟨by rfl, ?_⟩) hHeld ?_
      rotate_left
      · (intro w hSw; (try dsimp only at hSw); go_simp; try (with_reducible rfl))
      try simp only [Act.put, List.setIfInBounds_toArray, List.set_cons_zero, List.set_cons_succ]
      refine wpAnyH_done (by kernel_rfl) ?_ _
      have hbF := HB10.out.trans (hHeld.mono HB10.out.size)
      clear hHeld hbc
      go_wp2_with fail
      exact ⟨⟨j + 1, by omega, by go_num, by rw [Hsn.out]; congr 1; omega, hbF⟩, by simp [intOf]; omega⟩
    · obtain rfl : nl = j := by omega
      have hall : crowdT (hereK g s l t k) nl = crowdS (hereK g s l t k) := crowdT_all (by rw [hereK_len, Hll.out, List.length_map]; omega)
      rw [hall]
      clear hall hct12
      go_wp2_with fail
      go_ret
      exact ⟨rfl, hb⟩
end Go.Proofs.Ytkmocikcohhdoaa
