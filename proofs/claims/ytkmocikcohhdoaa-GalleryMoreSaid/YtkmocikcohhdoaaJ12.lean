/- The closure of GalleryMore, by contract; a row of reaches of one's own that is made better known. -/
import Derived.Test.YtkmocikcohhdoaaJ10
import Derived.Test.YtkmocikcohhdoaaJA
import Derived.Test.YtkmocikcohhdoaaH3
set_option linter.unusedVariables false
set_option linter.unusedSimpArgs false
namespace Go.Proofs.Ytkmocikcohhdoaa
open Go.RowKit Go.Shelf
section
variable {wv : World} {base : Nat} {e : TypeId} {q n c i : Nat} {D : List Rc} {x : Rc}
theorem own_rc6 (h : Own wv base e 6 Rc.cells (.slice (some ⟨q, 0, none⟩) n c) D) (hx : D[i]? = some x) (hn : n = D.length) :
    (wv.cell? ⟨q, i * 6, none⟩ = some (.int .i64 x.cap.lo) ∧ wv.cell? ⟨q, i * 6 + 1, none⟩ = some (.int .i64 x.cap.hi) ∧ wv.cell? ⟨q, i * 6 + 2, none⟩ = some (.int .i64 x.leak.lo) ∧ wv.cell? ⟨q, i * 6 + 3, none⟩ = some (.int .i64 x.leak.hi) ∧ wv.cell? ⟨q, i * 6 + 4, none⟩ = some (.int .i64 x.gain.lo) ∧ wv.cell? ⟨q, i * 6 + 5, none⟩ = some (.int .i64 x.gain.hi)) ∧ ∀ j, wv.frozen? ⟨q, j, none⟩ = false := by
  subst hn
  have hi : i < D.length := (List.getElem?_eq_some_iff.1 hx).1
  refine ⟨⟨?_, ?_, ?_, ?_, ?_, ?_⟩, fun j => World.ownsRow.frozenAt h _⟩
  · rw [World.ownsRow.cellAt h (i * 6) (by omega)]
    exact flat_get Rc.len hx (j := 0) (by omega)
  all_goals rw [World.ownsRow.cellAt h _ (by omega)]
  · exact flat_get Rc.len hx (j := 1) (by omega)
  · exact flat_get Rc.len hx (j := 2) (by omega)
  · exact flat_get Rc.len hx (j := 3) (by omega)
  · exact flat_get Rc.len hx (j := 4) (by omega)
  · exact flat_get Rc.len hx (j := 5) (by omega)
theorem own_leak (h : Own wv base e 6 Rc.cells (.slice (some ⟨q, 0, none⟩) n c) D) (hx : D[i]? = some x) (b0 b1 : Int) (hn : n = D.length) :
    Own ((wv.setCell ⟨q, i * 6 + 2, none⟩ (.int .i64 b0)).setCell ⟨q, i * 6 + 3, none⟩ (.int .i64 b1)) base e 6 Rc.cells (.slice (some ⟨q, 0, none⟩) n c) (D.set i ⟨x.cap, ⟨b0, b1⟩, x.gain⟩) := by
  have hi : i < D.length := (List.getElem?_eq_some_iff.1 hx).1
  obtain ⟨o2, _, _⟩ := h.put_ Rc.len (i := i) (j := 2) (x' := ⟨x.cap, ⟨b0, x.leak.hi⟩, x.gain⟩) (u := .int .i64 b0) hx (by omega) rfl hn
  have hx2 : (D.set i ⟨x.cap, ⟨b0, x.leak.hi⟩, x.gain⟩)[i]? = some ⟨x.cap, ⟨b0, x.leak.hi⟩, x.gain⟩ := List.getElem?_set_self hi
  obtain ⟨o3, _, _⟩ := o2.put_ Rc.len (i := i) (j := 3) (x' := ⟨x.cap, ⟨b0, b1⟩, x.gain⟩) (u := .int .i64 b1) hx2 (by omega) rfl (by rw [List.length_set]; exact hn)
  rw [List.set_set] at o3
  exact o3
/-- The six stores that lay a whole reach. -/
theorem own_lay (h : Own wv base e 6 Rc.cells (.slice (some ⟨q, 0, none⟩) n c) D) (hx : D[i]? = some x) (a0 a1 b0 b1 c0 c1 : Int) (hn : n = D.length) :
    Own ((((((wv.setCell ⟨q, i * 6, none⟩ (.int .i64 a0)).setCell ⟨q, i * 6 + 1, none⟩ (.int .i64 a1)).setCell ⟨q, i * 6 + 2, none⟩ (.int .i64 b0)).setCell ⟨q, i * 6 + 3, none⟩ (.int .i64 b1)).setCell ⟨q, i * 6 + 4, none⟩ (.int .i64 c0)).setCell ⟨q, i * 6 + 5, none⟩ (.int .i64 c1)) base e 6 Rc.cells (.slice (some ⟨q, 0, none⟩) n c) (D.set i ⟨⟨a0, a1⟩, ⟨b0, b1⟩, ⟨c0, c1⟩⟩) := by
  have hi : i < D.length := (List.getElem?_eq_some_iff.1 hx).1
  have o1 := (own_cap h hx ⟨a0, a1⟩ hn).1
  have hx1 : (D.set i ⟨⟨a0, a1⟩, x.leak, x.gain⟩)[i]? = some ⟨⟨a0, a1⟩, x.leak, x.gain⟩ := List.getElem?_set_self hi
  obtain ⟨o2, _, _⟩ := o1.put_ Rc.len (i := i) (j := 2) (x' := ⟨⟨a0, a1⟩, ⟨b0, x.leak.hi⟩, x.gain⟩) (u := .int .i64 b0) hx1 (by omega) rfl (by rw [List.length_set]; exact hn)
  rw [List.set_set] at o2
  have hx2 : (D.set i ⟨⟨a0, a1⟩, ⟨b0, x.leak.hi⟩, x.gain⟩)[i]? = some ⟨⟨a0, a1⟩, ⟨b0, x.leak.hi⟩, x.gain⟩ := List.getElem?_set_self hi
  obtain ⟨o3, _, _⟩ := o2.put_ Rc.len (i := i) (j := 3) (x' := ⟨⟨a0, a1⟩, ⟨b0, b1⟩, x.gain⟩) (u := .int .i64 b1) hx2 (by omega) rfl (by rw [List.length_set]; exact hn)
  rw [List.set_set] at o3
  have hx3 : (D.set i ⟨⟨a0, a1⟩, ⟨b0, b1⟩, x.gain⟩)[i]? = some ⟨⟨a0, a1⟩, ⟨b0, b1⟩, x.gain⟩ := List.getElem?_set_self hi
  obtain ⟨o4, _, _⟩ := o3.put_ Rc.len (i := i) (j := 4) (x' := ⟨⟨a0, a1⟩, ⟨b0, b1⟩, ⟨c0, x.gain.hi⟩⟩) (u := .int .i64 c0) hx3 (by omega) rfl (by rw [List.length_set]; exact hn)
  rw [List.set_set] at o4
  have hx4 : (D.set i ⟨⟨a0, a1⟩, ⟨b0, b1⟩, ⟨c0, x.gain.hi⟩⟩)[i]? = some ⟨⟨a0, a1⟩, ⟨b0, b1⟩, ⟨c0, x.gain.hi⟩⟩ := List.getElem?_set_self hi
  obtain ⟨o5, _, _⟩ := o4.put_ Rc.len (i := i) (j := 5) (x' := ⟨⟨a0, a1⟩, ⟨b0, b1⟩, ⟨c0, c1⟩⟩) (u := .int .i64 c1) hx4 (by omega) rfl (by rw [List.length_set]; exact hn)
  rw [List.set_set] at o5
  exact o5
end
/-- A gallery that is known better. -/
structure Better (g D : List Rc) : Prop where
  len : D.length = g.length
  fine : ∀ r ∈ D, r.fine
  sub : ∀ (k : Nat) (r r' : Rc), D[k]? = some r → g[k]? = some r' → Rc.sub r r'
theorem Better.refl {g : List Rc} (h : ∀ r ∈ g, r.fine) : Better g g := ⟨rfl, h, same_sub⟩
theorem subS_trans {a b c : Sp} (h1 : subS a b) (h2 : subS b c) : subS a c := ⟨Int.le_trans h2.1 h1.1, Int.le_trans h1.2 h2.2⟩
theorem Better.set {g D : List Rc} {i : Nat} {x : Rc} (h : Better g D) (hx : D[i]? = some x) {y : Rc} (hf : y.fine) (hs : Rc.sub y x) : Better g (D.set i y) := by
  refine ⟨by rw [List.length_set]; exact h.len, fun r hr => ?_, fun k r r' h1 h2 => ?_⟩
  · rcases List.mem_or_eq_of_mem_set hr with h1 | h1
    · exact h.fine r h1
    · rw [h1]; exact hf
  · by_cases e : i = k
    · subst e
      rw [List.getElem?_set_self (List.getElem?_eq_some_iff.1 hx).1] at h1
      injection h1 with h1
      subst h1
      obtain ⟨a, b, c⟩ := h.sub i x r' hx h2
      exact ⟨subS_trans hs.1 a, subS_trans hs.2.1 b, subS_trans hs.2.2 c⟩
    · rw [List.getElem?_set_ne e] at h1
      exact h.sub k r r' h1 h2
/-- A list as a set, as far as it has been looked at. -/
def memM (L : List Int) (j : Nat) (x : Int) : Option Bool := if x ∈ L.take j then some true else none
theorem memM_zero (L : List Int) (x : Int) : memM L 0 x = none := by simp [memM]
theorem memM_succ {L : List Int} {j : Nat} {y : Int} (h : L[j]? = some y) (x : Int) : memM L (j + 1) x = upd (memM L j) y (some true) x := by
  obtain ⟨hj, rfl⟩ := List.getElem?_eq_some_iff.1 h
  unfold memM upd
  rw [List.take_succ_eq_append_getElem hj]
  by_cases e : x = L[j]
  · rw [if_pos e, if_pos (List.mem_append.2 (.inr (by rw [e]; exact List.mem_singleton_self _)))]
  · rw [if_neg e]
    have : x ∈ L.take j ++ [L[j]] ↔ x ∈ L.take j := by
      rw [List.mem_append, List.mem_singleton]
      exact ⟨fun h => h.resolve_right e, .inl⟩
    simp only [this]
theorem memM_in {L : List Int} {j : Nat} {x : Int} (hj : L.length ≤ j) (h : x ∈ L) : (memM L j x).getD false = true := by
  unfold memM
  rw [List.take_of_length_le hj, if_pos h]
  rfl
theorem memM_out {L : List Int} {j : Nat} {x : Int} (hj : L.length ≤ j) (h : x ∉ L) : (memM L j x).getD false = false := by
  unfold memM
  rw [List.take_of_length_le hj, if_neg h]
  rfl
set_option maxHeartbeats 4000000 in
set_option maxRecDepth 100000 in
theorem part_any (lo hi i : Int) (A : Option Addr) (n c p : Nat) (bys : List Nat) (w : World) (h0 : 0 ≤ lo) (h1 : lo ≤ hi) (h2 : hi ≤ 1000000) (i0 : 0 ≤ i) (i1 : i ≤ 900) (hn : n = bys.length) (hn2 : n ≤ 9223372036854775807) (h32 : ∀ x ∈ bys, x ≤ 4294967295) (hx : Rd w w.heap.size u32cell A bys) (at2 : Bx w p [.slice A n c]) :
    Calls Try.prog 48 #[.agg #[.int .i64 lo, .int .i64 hi], .int .i64 i, .pointer (some ⟨p, 0, none⟩)] w fun e w' => ∃ a b, e = .returned (.agg #[.int .i64 a, .int .i64 b]) ∧ (lo ≤ a ∧ a ≤ b ∧ b ≤ hi) ∧ Below w.heap.size w w' := by
  obtain ⟨b3, w1, e3, ew1, hx3, hb1, hz1⟩ := mk_bx w #[.int .i64 lo, .int .i64 hi] 24
  obtain ⟨b5, w2, e5, ew2, hx5, hb2, hz2⟩ := mk_bx w1 #[.int .i64 0, .int .i64 0] 24
  have e35 : b3 + 1 = b5 := by have := e5.out; omega
  have n35 : b3 ≠ b5 := by omega
  have hge5 : w.heap.size ≤ b5 := by have := e3.out; omega
  have hB2 := hb1.trans (hb2.mono hb1.size)
  have Hnb := hide hn; have Hnb2 := hide hn2; have H32 := hide h32
  have rby := hx.bel hB2
  have np5 : p ≠ b5 := by have := at2.lt; omega
  replace hx3 := hx3.bel hb2; replace at2 := at2.bel hB2
  clear hn hn2 h32 hx hz1 hz2 hb1 hb2
  go_enter Try.func48, Try.ntmps48
  go_wp2_with fail
  rw [ew1.out, e3.out, e35, ew2.out]
  refine wp_region_held_drew (S := (fun W => Below w2.heap.size w2 W)) (by kernel_rfl) (by (try dsimp only); exact (Below.refl _ _).drew) (fun hHeld => ?_)
  generalize World.drew w2 = Wd1 at hHeld ⊢
  have rby := rby.bel hHeld
  have hbc := Below.refl Wd1.heap.size Wd1
  refine wpAnyH_take (i := 0) (oi := ⟨_, _, _, _, _, _⟩) (v := ?_) rfl (by kernel_rfl) (by kernel_rfl) (by kernel_rfl) (fun _ _ _ h => h) (Or.inl ⟨by rfl, ?_⟩) hHeld ?_
  rotate_left
  · (intro w hSw; (try dsimp only at hSw); obtain ⟨q0, q1, _, _⟩ := (hx3.bel hSw).w2; have x2 := (at2.bel hSw).at_.c1; go_simp; try (with_reducible rfl))
  try simp only [Act.put, List.setIfInBounds_toArray, List.set_cons_zero, List.set_cons_succ]
  refine wpAnyH_take (i := 1) (oi := ⟨_, _, _, _, _, _⟩) (v := ?_) rfl (by kernel_rfl) (by kernel_rfl) (by kernel_rfl) (fun _ _ _ h => h) (Or.inl ⟨by rfl, ?_⟩) hHeld ?_
  rotate_left
  · (intro w hSw; (try dsimp only at hSw); obtain ⟨q0, q1, _, _⟩ := (hx3.bel hSw).w2; have x2 := (at2.bel hSw).at_.c1; go_simp; try (with_reducible rfl))
  try simp only [Act.put, List.setIfInBounds_toArray, List.set_cons_zero, List.set_cons_succ]
  refine wpAnyH_take (i := 2) (oi := ⟨_, _, _, _, _, _⟩) (v := ?_) rfl (by kernel_rfl) (by kernel_rfl) (by kernel_rfl) (fun _ _ _ h => h) (Or.inl ⟨by rfl, ?_⟩) hHeld ?_
  rotate_left
  · (intro w hSw; (try dsimp only at hSw); go_simp; try (with_reducible rfl))
  try simp only [Act.put, List.setIfInBounds_toArray, List.set_cons_zero, List.set_cons_succ]
  refine wpAnyH_ready (rs := [3]) (by kernel_rfl) (by simp) ?_
  refine AllReadyH.cons (o := ⟨_, _, _, _, _, _⟩) rfl (fun K hK => ?_) AllReadyH.nil
  go_simp
  refine (gat_any A n c bys _ _ Hnb.out H32.out rby Hnb2.out (by omega) (by omega)).mono ?_
  rintro e V10 ⟨m10, rfl, hm10, hb⟩
  go_wp2_with fail
  have hHeldN := hHeld.trans (hb.mono hHeld.size)
  have rby := rby.bel hb
  have hbc := hbc.trans (hb.mono hbc.size)
  refine hK.out _ _ ?_ (fun hHeld2 => ?_)
  · exact hHeldN
  clear hK K hHeld hHeldN hb; have hHeld := hHeld2; clear hHeld2
  try simp only [Act.put, List.setIfInBounds_toArray, List.set_cons_zero, List.set_cons_succ]
  refine wpAnyH_ready (rs := [4]) (by kernel_rfl) (by simp) ?_
  refine AllReadyH.cons (o := ⟨_, _, _, _, _, _⟩) rfl (fun K hK => ?_) AllReadyH.nil
  go_simp
  refine (gpick_any _ _ _ _ h0 h1 (by omega) hm10).mono ?_
  rintro e V11 ⟨r11, rfl, hr11, hb⟩
  have hq11 := hr11
  unfold inS at hq11
  dsimp only at hq11
  obtain ⟨hl11, hu11⟩ := hq11
  go_wp2_with fail
  have hHeldN := hHeld.trans (hb.mono hHeld.size)
  have rby := rby.bel hb
  have hbc := hbc.trans (hb.mono hbc.size)
  refine hK.out _ _ ?_ (fun hHeld2 => ?_)
  · exact hHeldN
  clear hK K hHeld hHeldN hb; have hHeld := hHeld2; clear hHeld2
  try simp only [Act.put, List.setIfInBounds_toArray, List.set_cons_zero, List.set_cons_succ]
  refine wpAnyH_take (i := 5) (oi := ⟨_, _, _, _, _, _⟩) (v := ?_) rfl (by kernel_rfl) (by kernel_rfl) (by kernel_rfl) (fun _ _ _ h => h) (Or.inl ⟨by rfl, ?_⟩) hHeld ?_
  rotate_left
  · (intro w hSw; (try dsimp only at hSw); go_simp; try (with_reducible rfl))
  try simp only [Act.put, List.setIfInBounds_toArray, List.set_cons_zero, List.set_cons_succ]
  refine wpAnyH_done (by kernel_rfl) ?_ _
  replace hx3 := hx3.bel hHeld; replace at2 := at2.bel hHeld; replace hx5 := hx5.bel hHeld
  have hB3 := hB2.trans (hHeld.mono hB2.size)
  obtain ⟨w3, rfl⟩ : ∃ w3, w3 = V11 := ⟨V11, rfl⟩
  have fw : IntKind.i64.wrap (i + 1) = i + 1 := wrapI (by omega)
  clear hHeld hbc hr11
  go_wp2_with fail
  refine wp_region_held_drew (S := (fun W => Kept (fun b => b ≠ b5) w3 W)) (by kernel_rfl) (by (try dsimp only); exact Kept.all _ (Below.refl _ _).drew) (fun hHeld => ?_)
  have hdr : Below w3.heap.size w3 (World.drew w3) := (Below.refl _ _).drew
  generalize World.drew w3 = Wd2 at hHeld hdr ⊢
  have rby := rby.bel hdr
  have hx5 := hx5.bel hdr
  have hbc := Below.refl Wd2.heap.size Wd2
  refine wpAnyH_take (i := 0) (oi := ⟨_, _, _, _, _, _⟩) (v := ?_) rfl (by kernel_rfl) (by kernel_rfl) (by kernel_rfl) (fun _ _ _ h => h) (Or.inl ⟨by rfl, ?_⟩) hHeld ?_
  rotate_left
  · (intro w hSw; (try dsimp only at hSw); go_simp; try (with_reducible rfl))
  try simp only [Act.put, List.setIfInBounds_toArray, List.set_cons_zero, List.set_cons_succ]
  refine wpAnyH_take (i := 1) (oi := ⟨_, _, _, _, _, _⟩) (v := ?_) rfl (by kernel_rfl) (by kernel_rfl) (by kernel_rfl) (fun _ _ _ h => h) (Or.inl ⟨by rfl, ?_⟩) hHeld ?_
  rotate_left
  · (intro w hSw; (try dsimp only at hSw); go_simp; try (with_reducible rfl))
  try simp only [Act.put, List.setIfInBounds_toArray, List.set_cons_zero, List.set_cons_succ]
  refine wpAnyH_take (i := 2) (oi := ⟨_, _, _, _, _, _⟩) (v := ?_) rfl (by kernel_rfl) (by kernel_rfl) (by kernel_rfl) (fun _ _ _ h => h) (Or.inl ⟨by rfl, ?_⟩) hHeld ?_
  rotate_left
  · (intro w hSw; (try dsimp only at hSw); go_simp; try (with_reducible rfl))
  try simp only [Act.put, List.setIfInBounds_toArray, List.set_cons_zero, List.set_cons_succ]
  refine wpAnyH_take (i := 3) (oi := ⟨_, _, _, _, _, _⟩) (v := ?_) rfl (by kernel_rfl) (by kernel_rfl) (by kernel_rfl) (fun _ _ _ h => h) (Or.inl ⟨by rfl, ?_⟩) hHeld ?_
  rotate_left
  · (intro w hSw; (try dsimp only at hSw); obtain ⟨q0, q1, _, _⟩ := (hx3.kept hSw n35).w2; have x2 := (at2.kept hSw np5).at_.c1; go_simp; try (with_reducible rfl))
  try simp only [Act.put, List.setIfInBounds_toArray, List.set_cons_zero, List.set_cons_succ]
  refine wpAnyH_take (i := 5) (oi := ⟨_, _, _, _, _, _⟩) (v := ?_) rfl (by kernel_rfl) (by kernel_rfl) (by kernel_rfl) (fun _ _ _ h => h) (Or.inl ⟨by rfl, ?_⟩) hHeld ?_
  rotate_left
  · (intro w hSw; (try dsimp only at hSw); obtain ⟨q0, q1, _, _⟩ := (hx3.kept hSw n35).w2; have x2 := (at2.kept hSw np5).at_.c1; go_simp; try (with_reducible rfl))
  try simp only [Act.put, List.setIfInBounds_toArray, List.set_cons_zero, List.set_cons_succ]
  refine wpAnyH_take (i := 6) (oi := ⟨_, _, _, _, _, _⟩) (v := ?_) rfl (by kernel_rfl) (by kernel_rfl) (by kernel_rfl) (fun _ _ _ h => h) (Or.inl ⟨by rfl, ?_⟩) hHeld ?_
  rotate_left
  · (intro w hSw; (try dsimp only at hSw); go_simp; try (with_reducible rfl))
  try simp only [Act.put, List.setIfInBounds_toArray, List.set_cons_zero, List.set_cons_succ]
  refine wpAnyH_take (i := 7) (oi := ⟨_, _, _, _, _, _⟩) (v := ?_) rfl (by kernel_rfl) (by kernel_rfl) (by kernel_rfl) (fun _ _ _ h => h) (Or.inl ⟨by rfl, ?_⟩) hHeld ?_
  rotate_left
  · (intro w hSw; (try dsimp only at hSw); go_simp; try (with_reducible rfl))
  try simp only [Act.put, List.setIfInBounds_toArray, List.set_cons_zero, List.set_cons_succ]
  refine wpAnyH_ready (rs := [4]) (by kernel_rfl) (by simp) ?_
  refine AllReadyH.cons (o := ⟨_, _, _, _, _, _⟩) rfl (fun K hK => ?_) AllReadyH.nil
  go_simp
  refine (gspan_any _ _ _).mono ?_
  rintro e V16 ⟨rfl, hb⟩
  go_wp2_with fail
  have hHeldN := hHeld.trans (Kept.all _ hb)
  have rby := rby.bel hb
  have hx5 := hx5.bel hb
  have hbc := hbc.trans (hb.mono hbc.size)
  refine hK.out _ _ ?_ (fun hHeld2 => ?_)
  · exact hHeldN
  clear hK K hHeld hHeldN hb; have hHeld := hHeld2; clear hHeld2
  try simp only [Act.put, List.setIfInBounds_toArray, List.set_cons_zero, List.set_cons_succ]
  refine wpAnyH_ready (rs := [8]) (by kernel_rfl) (by simp) ?_
  refine AllReadyH.cons (o := ⟨_, _, _, _, _, _⟩) rfl (fun K hK => ?_) AllReadyH.nil
  go_simp
  refine (gat_any _ _ _ bys _ _ Hnb.out H32.out rby Hnb2.out (by omega) (by omega)).mono ?_
  rintro e V20 ⟨m20, rfl, hm20, hb⟩
  go_wp2_with fail
  have hHeldN := hHeld.trans (Kept.all _ hb)
  have rby := rby.bel hb
  have hx5 := hx5.bel hb
  have hbc := hbc.trans (hb.mono hbc.size)
  refine hK.out _ _ ?_ (fun hHeld2 => ?_)
  · exact hHeldN
  clear hK K hHeld hHeldN hb; have hHeld := hHeld2; clear hHeld2
  try simp only [Act.put, List.setIfInBounds_toArray, List.set_cons_zero, List.set_cons_succ]
  refine wpAnyH_ready (rs := [9]) (by kernel_rfl) (by simp) ?_
  refine AllReadyH.cons (o := ⟨_, _, _, _, _, _⟩) rfl (fun K hK => ?_) AllReadyH.nil
  go_simp
  refine (gpick_any _ _ _ _ (by omega) (by omega) (by omega) hm20).mono ?_
  rintro e V21 ⟨r21, rfl, hr21, hb⟩
  have hq21 := hr21
  unfold inS at hq21
  dsimp only at hq21
  obtain ⟨hl21, hu21⟩ := hq21
  go_wp2_with fail
  have hHeldN := hHeld.trans (Kept.all _ hb)
  have rby := rby.bel hb
  have hx5 := hx5.bel hb
  have hbc := hbc.trans (hb.mono hbc.size)
  refine hK.out _ _ ?_ (fun hHeld2 => ?_)
  · exact hHeldN
  clear hK K hHeld hHeldN hb; have hHeld := hHeld2; clear hHeld2
  try simp only [Act.put, List.setIfInBounds_toArray, List.set_cons_zero, List.set_cons_succ]
  refine wpAnyH_ready (rs := [10]) (by kernel_rfl) (by simp) ?_
  refine AllReadyH.cons (o := ⟨_, _, _, _, _, _⟩) rfl (fun K hK => ?_) AllReadyH.nil
  go_simp
  refine (gspan_any _ _ _).mono ?_
  rintro e V22 ⟨rfl, hb⟩
  go_wp2_with fail
  have hHeldN := hHeld.trans (Kept.all _ hb)
  have rby := rby.bel hb
  have hx5 := hx5.bel hb
  have hbc := hbc.trans (hb.mono hbc.size)
  refine hK.out _ _ ?_ (fun hHeld2 => ?_)
  · exact hHeldN
  clear hK K hHeld hHeldN hb; have hHeld := hHeld2; clear hHeld2
  try simp only [Act.put, List.setIfInBounds_toArray, List.set_cons_zero, List.set_cons_succ]
  refine wpAnyH_ready (rs := [11]) (by kernel_rfl) (by simp) ?_
  refine AllReadyH.cons (o := ⟨_, _, _, _, _, _⟩) rfl (fun K hK => ?_) AllReadyH.nil
  obtain ⟨z0, z1, y0, y1⟩ := hx5.w2
  have hHeldF := hHeld
  have hset := hx5.set2 (.int .i64 r11) (.int .i64 r21)
  go_simp
  refine hK.out _ _ ?_ (fun _ => ?_)
  · (try dsimp only); exact (hHeld.trans (Kept.setCell _ ⟨b5, 0, none⟩ _)).trans (Kept.setCell _ ⟨b5, 1, none⟩ _)
  clear hK K hHeld
  try simp only [Act.put, List.setIfInBounds_toArray, List.set_cons_zero, List.set_cons_succ]
  refine wpAnyH_done (by kernel_rfl) ?_ _
  have hBd := hB3.trans (hdr.mono hB3.size)
  have hBv := hBd.trans (hbc.mono hBd.size)
  have hBf := (hBv.setCell (p := ⟨b5, 0, none⟩) hge5 (.int .i64 r11)).setCell (p := ⟨b5, 1, none⟩) hge5 (.int .i64 r21)
  obtain ⟨k0, k1, _, _⟩ := hset.w2
  clear hset hHeldF hr21 fw
  go_wp2_with fail
  refine bodyPost_ret (v := .agg #[.int .i64 r11, .int .i64 r21]) (by simp [results, Try.results48, go_sem, k0, k1]; try rfl) rfl ?_
  exact ⟨r11, r21, rfl, by omega, hBf⟩
end Go.Proofs.Ytkmocikcohhdoaa
