/- The reference of channel: the canals that are dry, use by use, by contracts. -/
import Derived.Test.YtgklcilpohkpkaaR5
import Derived.Test.YtgklcilpohkpkaaR3
set_option linter.unusedVariables false
set_option linter.unusedSimpArgs false
namespace Go.Proofs.Ytgklcilpohkpkaa
open Go.RowKit Go.Shelf
attribute [local go_sem ↓] Go.wp_at_zero Go.wp_at_succ
def dryR (cs : List Ca) (fs : List Int) (dry cyc : Int) (us : List Us) (a : Nat) : List Int := match us[a]? with | some u => (pathK cs fs u.field).filter (dryB cs fs dry cyc us a) | none => []
theorem filter_snoc {p : Int → Bool} {l : List Int} {k : Nat} {x : Int} (hx : l[k]? = some x) : (l.take (k + 1)).filter p = (l.take k).filter p ++ (if p x then [x] else []) := by
  rw [take_snoc hx, List.filter_append]
  congr 1
  cases h : p x <;> simp [h]
set_option maxHeartbeats 4000000 in
set_option maxRecDepth 100000 in
theorem rDries_any (Ac Af Au : Option Addr) (nc cc nf cf nu cu : Nat) (dry days : Int) (cs : List Ca) (fs : List Int) (us : List Us) (at_ : Nat) (w : World) (hnet : NetAt w Ac Af nc nf cs fs) (hus : Rd w w.heap.size Us.cells Au us) (hnu : nu = us.length) (hok : netOk cs fs dry days = true) (huo : usesOk nf days us = true) (hat_ : at_ < nu) :
    Calls Try.prog 63 #[.agg #[.slice Ac nc cc, .slice Af nf cf, .int .i64 dry, .int .i64 days], .slice Au nu cu, .int .i64 at_] w fun e w' => ∃ v, e = .returned v ∧ Own w' w.heap.size 3 1 icell v (dryR cs fs dry (days * 1440) us at_) ∧ Below w.heap.size w w' := by
  have hul := usesOk_len huo
  have hn60 : nu ≤ 60 := by omega
  obtain ⟨w1, Hw1⟩ : ∃ w1, Hid (w.alloc (.cells #[.slice Ac nc cc, .slice Af nf cf, .int .i64 dry, .int .i64 days] 25) = w1) := ⟨_, hide rfl⟩
  have hat0 : At w1 w.heap.size [.slice Ac nc cc, .slice Af nf cf, .int .i64 dry, .int .i64 days] := by rw [← Hw1.out]; exact At.new w _ _ _ rfl _ rfl
  have hB0 : Below w.heap.size w w1 := by rw [← Hw1.out]; exact below_new _ _
  obtain ⟨b, off, uf, vs, vt, hA, hbB, hxa, c0, d1, d2⟩ := (hus.below hB0).us (i := at_) (by omega)
  have hva := usesOk_mem huo (List.mem_of_getElem? hxa)
  simp only at hva
  obtain ⟨⟨f0, f1⟩, t0, t1, t2⟩ := hva
  have hdr : dryR cs fs dry (days * 1440) us at_ = (pathK cs fs uf).filter (dryB cs fs dry (days * 1440) us at_) := by unfold dryR; rw [hxa]
  rw [hdr]
  have Hus := hide hus
  have hbw : b < w1.heap.size := by have := hB0.size; omega
  have Lp := hide (pathK_len cs fs hok f0 (by rw [← hnet.ef]; exact f1))
  subst hA
  have Hnu := hide hnu; have Hok := hide hok; have Huo := hide huo
  have hat1 : (0 : Int) ≤ (at_ : Int) := by omega
  have hat2 : (at_ : Int) < (nu : Int) := by omega
  clear hnu hok huo hdr hxa d1 d2 hus
  go_enter Try.func63, Try.ntmps63
  go_wp2_with fail
  rw [Hw1.out]
  refine wp_region_held_drew (S := (fun W => Below w1.heap.size w1 W)) (by kernel_rfl) (by (try dsimp only); exact (Below.refl _ _).drew) (fun hHeld => ?_)
  refine tkH 0 ?_ rfl (Or.inl ⟨by rfl, ?_⟩) hHeld ?_
  rotate_left
  · (intro w hSw; (try dsimp only at hSw); obtain ⟨q0, q1, q2, q3⟩ := (hat0.below hSw).c4; have c0 := (hSw.cell (p := ⟨b, off + at_ * 3, none⟩) (by show b < _; omega)).trans c0; go_simp; try (with_reducible rfl))
  try simp only [Act.put, tl1, tl2, tl3]
  refine tkH 1 ?_ rfl (Or.inl ⟨by rfl, ?_⟩) hHeld ?_
  rotate_left
  · (intro w hSw; (try dsimp only at hSw); go_simp; try (with_reducible rfl))
  try simp only [Act.put, tl1, tl2, tl3]
  refine tkH 2 ?_ rfl (Or.inl ⟨by rfl, ?_⟩) hHeld ?_
  rotate_left
  · (intro w hSw; (try dsimp only at hSw); go_simp; try (with_reducible rfl))
  try simp only [Act.put, tl1, tl2, tl3]
  refine tkH 3 ?_ rfl (Or.inl ⟨by rfl, ?_⟩) hHeld ?_
  rotate_left
  · (intro w hSw; (try dsimp only at hSw); go_simp; try (with_reducible rfl))
  try simp only [Act.put, tl1, tl2, tl3]
  refine tkH 4 ?_ rfl (Or.inl ⟨by rfl, ?_⟩) hHeld ?_
  rotate_left
  · (intro w hSw; (try dsimp only at hSw); go_simp; try (with_reducible rfl))
  try simp only [Act.put, tl1, tl2, tl3]
  refine tkH 5 ?_ rfl (Or.inl ⟨by rfl, ?_⟩) hHeld ?_
  rotate_left
  · (intro w hSw; (try dsimp only at hSw); obtain ⟨q0, q1, q2, q3⟩ := (hat0.below hSw).c4; have c0 := (hSw.cell (p := ⟨b, off + at_ * 3, none⟩) (by show b < _; omega)).trans c0; go_simp; try (with_reducible rfl))
  try simp only [Act.put, tl1, tl2, tl3]
  refine wpAnyH_ready (rs := [6]) (by kernel_rfl) (by simp) ?_
  refine AllReadyH.cons (o := ⟨_, _, _, _, _, _⟩) rfl (fun K hK => ?_) AllReadyH.nil
  go_simp
  refine (rPath_any Ac Af nc cc nf cf dry days cs fs uf _ (hnet.below (hB0.trans (hHeld.mono hB0.size))) Hok.out f0 f1).mono ?_
  rintro e w5 ⟨va, rfl, hoa, hb⟩
  have Hoa := hide hoa; have hbb := hb; clear hoa
  go_wp2_with fail
  refine hK.out _ _ ?_ (fun hHeld2 => ?_)
  · (try dsimp only)
    (first | exact hHeld | exact hHeld.trans (hb.mono hHeld.size) | exact hHeld.trans ((below_new _ _).mono hHeld.size) | exact hHeld.drew)
  clear hK K hHeld; have hHeld := hHeld2; clear hHeld2
  try simp only [Act.put, tl1, tl2, tl3]
  refine tkH 7 ?_ rfl (Or.inl ⟨by rfl, ?_⟩) hHeld ?_
  rotate_left
  · (intro w hSw; (try dsimp only at hSw); go_simp; try (with_reducible rfl))
  try simp only [Act.put, tl1, tl2, tl3]
  refine wpAnyH_done (by kernel_rfl) ?_ _
  have hat5 := hat0.below hHeld
  have hB5 := hB0.trans (hHeld.mono hB0.size)
  obtain ⟨Ap, cp, hva, hrp⟩ := Hoa.out.rd
  subst hva
  have Hrp := hide hrp
  obtain ⟨p, hp⟩ : ∃ p, p = (pathK cs fs uf).length := ⟨_, rfl⟩
  rw [← hp]
  have Hp := hide hp
  have hp16 : p ≤ 16 := by have := Lp.out; omega
  clear hHeld hat0 c0 hrp hp hbb
  go_wp2_with fail
  go_loopw [7, 9] (fun v i wr => ∃ k : Nat, k ≤ p ∧ i = .int .i64 k ∧ Own wr w5.heap.size 3 1 icell v (((pathK cs fs uf).take k).filter (dryB cs fs dry (days * 1440) us at_)) ∧ Below w5.heap.size w5 wr) (fun _ i _ => p - (intOf i).toNat)
  case atStart => exact ⟨0, by omega, rfl, Own.nil _ _ _ _ _, Below.refl _ _⟩
  case round =>
    obtain ⟨k, hk, rfl, hown, hb5⟩ := hrel
    have Hown := hide hown; clear hown
    have hat := hat5.below hb5
    have hB := hB5.trans (hb5.mono hB5.size)
    have hsz := hb5.size
    by_cases hlt : k < p
    · obtain ⟨b2, off2, x, hA2, hbB2, hx2, y0⟩ := (Hrp.out.below hb5).int (i := k) (by rw [← Hp.out]; exact hlt)
      subst hA2
      have hbw2 : b2 < wr.heap.size := by omega
      have Hx := hide hx2
      have hi0 : (0 : Int) ≤ (k : Int) := by omega
      have hi1 : (k : Int) < (p : Int) := by omega
      have hfl : (((pathK cs fs uf).take k).filter (dryB cs fs dry (days * 1440) us at_)).length ≤ k := by
        have h1 := List.length_filter_le (dryB cs fs dry (days * 1440) us at_) ((pathK cs fs uf).take k)
        have h2 := List.length_take_le k (pathK cs fs uf)
        omega
      clear hx2
      cases hd : dryB cs fs dry (days * 1440) us at_ x
      all_goals
        have Hd := hide hd; clear hd
        go_wp2_with fail
        refine wp_region_held_drew (S := (fun W => Below wr.heap.size wr W)) (by kernel_rfl) (by (try dsimp only); exact (Below.refl _ _).drew) (fun hHeld => ?_)
        refine tkH 0 ?_ rfl (Or.inl ⟨by rfl, ?_⟩) hHeld ?_
        rotate_left
        · (intro w hSw; (try dsimp only at hSw); obtain ⟨q0, q1, q2, q3⟩ := (hat.below hSw).c4; have y0 := (hSw.cell (p := ⟨b2, off2 + k, none⟩) (by show b2 < _; omega)).trans y0; go_simp; try (with_reducible rfl))
        try simp only [Act.put, tl1, tl2, tl3]
        refine tkH 1 ?_ rfl (Or.inl ⟨by rfl, ?_⟩) hHeld ?_
        rotate_left
        · (intro w hSw; (try dsimp only at hSw); go_simp; try (with_reducible rfl))
        try simp only [Act.put, tl1, tl2, tl3]
        refine tkH 2 ?_ rfl (Or.inl ⟨by rfl, ?_⟩) hHeld ?_
        rotate_left
        · (intro w hSw; (try dsimp only at hSw); go_simp; try (with_reducible rfl))
        try simp only [Act.put, tl1, tl2, tl3]
        refine tkH 3 ?_ rfl (Or.inl ⟨by rfl, ?_⟩) hHeld ?_
        rotate_left
        · (intro w hSw; (try dsimp only at hSw); go_simp; try (with_reducible rfl))
        try simp only [Act.put, tl1, tl2, tl3]
        refine tkH 4 ?_ rfl (Or.inl ⟨by rfl, ?_⟩) hHeld ?_
        rotate_left
        · (intro w hSw; (try dsimp only at hSw); go_simp; try (with_reducible rfl))
        try simp only [Act.put, tl1, tl2, tl3]
        refine tkH 5 ?_ rfl (Or.inl ⟨by rfl, ?_⟩) hHeld ?_
        rotate_left
        · (intro w hSw; (try dsimp only at hSw); go_simp; try (with_reducible rfl))
        try simp only [Act.put, tl1, tl2, tl3]
        refine tkH 6 ?_ rfl (Or.inl ⟨by rfl, ?_⟩) hHeld ?_
        rotate_left
        · (intro w hSw; (try dsimp only at hSw); obtain ⟨q0, q1, q2, q3⟩ := (hat.below hSw).c4; have y0 := (hSw.cell (p := ⟨b2, off2 + k, none⟩) (by show b2 < _; omega)).trans y0; go_simp; try (with_reducible rfl))
        try simp only [Act.put, tl1, tl2, tl3]
        refine wpAnyH_ready (rs := [7]) (by kernel_rfl) (by simp) ?_
        refine AllReadyH.cons (o := ⟨_, _, _, _, _, _⟩) rfl (fun K hK => ?_) AllReadyH.nil
        go_simp
        refine (rDry_any Ac Af _ nc cc nf cf nu cu dry days cs fs us at_ x _ (hnet.below (hB.trans (hHeld.mono hB.size))) ((Hus.out.below (hB.trans (hHeld.mono hB.size))).more (hB.trans (hHeld.mono hB.size)).size) Hnu.out Hok.out Huo.out hat_).mono ?_
        rintro e w6 ⟨rfl, hb⟩
        rw [Hd.out]
        have hbb := hb
        go_wp2_with fail
        refine hK.out _ _ ?_ (fun hHeld2 => ?_)
        · (try dsimp only)
          (first | exact hHeld | exact hHeld.trans (hb.mono hHeld.size) | exact hHeld.trans ((below_new _ _).mono hHeld.size) | exact hHeld.drew)
        clear hK K hHeld; have hHeld := hHeld2; clear hHeld2
        try simp only [Act.put, tl1, tl2, tl3]
        refine wpAnyH_done (by kernel_rfl) ?_ _
        have hbr : Below wr.heap.size wr w6 := hHeld
        have hb6 : Below w5.heap.size w5 w6 := hb5.trans (hbr.mono hb5.size)
        have Hown6 := hide (Hown.out.below hbr)
        have y1 := (hbr.cell (p := ⟨b2, off2 + k, none⟩) hbw2).trans y0
        clear hHeld hbb y0
      · go_wp2_with fail
        refine ⟨⟨k + 1, by omega, by go_num, ?_, hb6⟩, by simp [intOf]; omega⟩
        rw [filter_snoc Hx.out, Hd.out]
        simpa using Hown6.out
      · have hr := hide (Rd.new (cells := icell) w6 #[.int .i64 x] 3 [x] rfl)
        have hsz6 := hb6.size
        go_wp2_with (at_builtin; refine wpList_app (v := u7) (xs := ((pathK cs fs uf).take k).filter (dryB cs fs dry (days * 1440) us at_)) (ys := [x]) (n := 1) el_int rfl (.tmp 31) (.tmp 36) rfl rfl (Hown6.out.alloc _) rfl rfl hr.out (by omega) (by simp; omega) ?_; intro vv wv hown1 hg1 hat1; have Hw := hide (below_own (Hown6.out.alloc _) (hb6.alloc hb6.size _) hg1 (by simp; omega)); have Hown1 := hide hown1; clear hown1 hg1 hat1)
        refine ⟨⟨k + 1, by omega, by go_num, ?_, Hw.out⟩, by simp [intOf]; omega⟩
        rw [filter_snoc Hx.out, Hd.out]
        exact Hown1.out
    · go_wp2_with fail
      go_ret
      refine ⟨_, rfl, ?_, hB⟩
      have h := Hown.out
      rw [List.take_of_length_le (by rw [← Hp.out]; omega)] at h
      exact h.mono hB5.size
/-! ### all uses -/
/-- A row of slices of the call's own, each of them of its own. -/
structure RowsOwn (Z : Nat) (cells : Nat → List Int) (k : Nat) (v : Value) (W : World) : Prop where
  own : ∃ ss, Own W Z 23 1 Sl.cells v ss ∧ ss.length = k ∧ ∀ (i : Nat) (s : Sl), ss[i]? = some s → Own W Z 3 1 icell s.val (cells i) ∧ ∀ g, s.val.ownBlock = some g → ¬ v.ownBlock = some g
theorem RowsOwn.nil (Z : Nat) (cells : Nat → List Int) (W : World) : RowsOwn Z cells 0 (.slice none 0 0) W := ⟨[], Own.nil _ _ _ _ _, rfl, by simp⟩
theorem RowsOwn.step {Z k : Nat} {cells : Nat → List Int} {v vv : Value} {W W2 wv : World} {ss : List Sl} {s : Sl} {o : Obj} (hZ : Z ≤ W.heap.size) (h3 : Own W Z 23 1 Sl.cells v ss) (h5 : ss.length = k)
    (h6 : ∀ (i : Nat) (s : Sl), ss[i]? = some s → Own W Z 3 1 icell s.val (cells i) ∧ ∀ g, s.val.ownBlock = some g → ¬ v.ownBlock = some g) (hb : Below W.heap.size W W2) (hs : Own W2 W.heap.size 3 1 icell s.val (cells k))
    (ho : Own wv Z 23 1 Sl.cells vv (ss ++ [s])) (hg : (W2.alloc o).grownBy wv v.ownBlock) (hat : vv.ownBlock = v.ownBlock ∨ vv.ownBlock = some (W2.heap.size + 1)) : RowsOwn Z cells (k + 1) vv wv := by
  have h32 := h3.below hb
  have hk1 : Kept (fun b => ¬ v.ownBlock = some b) W2 wv := kept_app2 h32 (below_new W2 o) hg
  have hvv : ∀ g, vv.ownBlock = some g → v.ownBlock = some g ∨ W2.heap.size < g := fun g hg => by
    rcases hat with h | h
    · exact .inl (h.symm.trans hg)
    · rw [h] at hg; injection hg with hg; exact .inr (by omega)
  refine ⟨ss ++ [s], ho, by simp [h5], fun i s' hs' => ?_⟩
  have key : Own W2 Z 3 1 icell s'.val (cells i) ∧ ∀ g, s'.val.ownBlock = some g → ¬ v.ownBlock = some g := by
    by_cases hi : i < ss.length
    · rw [List.getElem?_append_left hi] at hs'
      exact ⟨(h6 i s' hs').1.below hb, (h6 i s' hs').2⟩
    · rw [List.getElem?_append_right (by omega)] at hs'
      have hi2 : i = k := by
        by_cases e : i - ss.length = 0
        · omega
        · rw [List.getElem?_eq_none (by simp; omega)] at hs'; cases hs'
      subst hi2
      rw [h5, Nat.sub_self] at hs'
      simp at hs'
      subst hs'
      exact ⟨hs.mono hZ, fun g hg e => by have := (own_block h3 e).2; have := (own_block hs hg).1; omega⟩
  refine ⟨key.1.keptB hk1 (fun g hg => key.2 g hg), fun g hg e => ?_⟩
  rcases hvv g e with h | h
  · exact key.2 g hg h
  · have := (own_block key.1 hg).2; omega
theorem RowsOwn.alloc {Z k : Nat} {cells : Nat → List Int} {v : Value} {W W' : World} (h : RowsOwn Z cells k v W) (hb : Below W.heap.size W W') : RowsOwn Z cells k v W' := by
  obtain ⟨ss, h1, h2, h3⟩ := h.own
  exact ⟨ss, h1.below hb, h2, fun i s hs => ⟨(h3 i s hs).1.below hb, (h3 i s hs).2⟩⟩
theorem RowsOwn.rows {Z n : Nat} {cells : Nat → List Int} {v : Value} {W : World} (h : RowsOwn Z cells n v W) : ∃ ss, Own W Z 23 1 Sl.cells v ss ∧ Rows W W.heap.size icell ss ((List.range n).map cells) := by
  obtain ⟨ss, h1, h2, h3⟩ := h.own
  refine ⟨ss, h1, by simp [h2], fun i s xs h8 h9 => ?_⟩
  have h11 := (h3 i s h8).1.rdv
  have : i < n := by have := (List.getElem?_eq_some_iff.1 h8).1; omega
  rw [List.getElem?_map, List.getElem?_range this] at h9
  simp at h9
  subst h9
  exact h11
def rDriesS (cs : List Ca) (fs : List Int) (dry days : Int) (us : List Us) : List (List Int) × Int :=
  if netOk cs fs dry days then (if usesOk fs.length days us then ((List.range us.length).map (dryR cs fs dry (days * 1440) us), 0) else ([], 51)) else ([], 50)
set_option maxHeartbeats 4000000 in
set_option maxRecDepth 100000 in
theorem rDries_fn (Ac Af Au : Option Addr) (nc cc nf cf nu cu : Nat) (dry days : Int) (cs : List Ca) (fs : List Int) (us : List Us) (w : World) (hnet : NetAt w Ac Af nc nf cs fs) (hus : Rd w w.heap.size Us.cells Au us) (hnu : nu = us.length) (hnu2 : nu ≤ 100000) :
    Calls Try.prog 22 #[.agg #[.slice Ac nc cc, .slice Af nf cf, .int .i64 dry, .int .i64 days], .slice Au nu cu] w fun e w' => ∃ v, e = .returned (.tuple #[v, .int .i64 (rDriesS cs fs dry days us).2]) ∧ ∃ ss, Own w' w.heap.size 23 1 Sl.cells v ss ∧ Rows w' w'.heap.size icell ss (rDriesS cs fs dry days us).1 ∧ Below w.heap.size w w' := by
  have hat0 := At.new w #[.slice Ac nc cc, .slice Af nf cf, .int .i64 dry, .int .i64 days] 25 w.heap.size rfl _ rfl
  have hB0 := below_new w (.cells #[.slice Ac nc cc, .slice Af nf cf, .int .i64 dry, .int .i64 days] 25)
  have hnil : ∀ w', Rows w' w'.heap.size icell ([] : List Sl) ([] : List (List Int)) := fun w' => ⟨rfl, fun i s xs h => by simp at h⟩
  cases hok : netOk cs fs dry days
  · have he : netErr cs fs dry days = 50 := by simp [netErr, hok]
    have hs : rDriesS cs fs dry days us = ([], 50) := by simp [rDriesS, hok]
    rw [hs]
    have He := hide he
    clear he hs hok
    go_enter Try.func22, Try.ntmps22
    go_wp2_with fail
    refine calls_gen fun W1 HW1 => ?_
    rw [HW1.out] at hat0 hB0
    refine (rCheck_any Ac Af nc cc nf cf dry days cs fs W1 (hnet.below hB0)).mono ?_
    rintro e w2 ⟨rfl, hb2⟩
    rw [He.out]
    go_wp2
    go_ret2
    exact ⟨_, rfl, [], Own.nil _ _ _ _ _, hnil _, hB0.trans (hb2.mono hB0.size)⟩
  · have he : netErr cs fs dry days = 0 := by simp [netErr, hok]
    have hs : rDriesS cs fs dry days us = if usesOk nf days us then ((List.range us.length).map (dryR cs fs dry (days * 1440) us), 0) else ([], 51) := by simp [rDriesS, hok, hnet.ef]
    rw [hs]
    have hdy := (netOk_parts hok).2.2.2.1
    have He := hide he; have Hok := hide hok; have Hnu := hide hnu; have Hus := hide hus
    have hnf2 := hnet.nf2
    clear he hs hok hnu hus
    cases hin : usesOk nf days us
    all_goals
      have Hin := hide hin
      clear hin
      go_enter Try.func22, Try.ntmps22
      go_wp2_with fail
      refine calls_gen fun W1 HW1 => ?_
      rw [HW1.out] at hat0 hB0
      refine (rCheck_any Ac Af nc cc nf cf dry days cs fs W1 (hnet.below hB0)).mono ?_
      rintro e w2 ⟨rfl, hb2⟩
      rw [He.out]
      have hat2 := hat0.below hb2
      have hB2 := hB0.trans (hb2.mono hB0.size)
      obtain ⟨q0, q1, q2, q3⟩ := hat2.c4
      clear hat0 hB0 hb2
      go_wp2_with fail
      refine (rUses_any Ac Af nc cc nf cf dry days Au us nu cu w2 ((Hus.out.below hB2).more hB2.size) Hnu.out hnu2 hnf2 hdy.1 hdy.2).mono ?_
      rintro e w4 ⟨rfl, hb4⟩
      rw [Hin.out]
      have hat4 := hat2.below hb4
      have hB4 := hB2.trans (hb4.mono hB2.size)
      clear hat2 hB2 hb4 q0 q1 q2 q3
    · go_wp2
      go_ret2
      exact ⟨_, rfl, [], Own.nil _ _ _ _ _, hnil _, hB4⟩
    · have hn60 : nu ≤ 60 := by have := usesOk_len Hin.out; have := Hnu.out; omega
      go_wp2_with fail
      go_loopw [6, 7] (fun v i wr => ∃ k : Nat, k ≤ nu ∧ i = .int .i64 k ∧ RowsOwn (w.heap.size + 1) (dryR cs fs dry (days * 1440) us) k v wr ∧ Below w.heap.size w wr ∧ At wr w.heap.size [.slice Ac nc cc, .slice Af nf cf, .int .i64 dry, .int .i64 days]) (fun _ i _ => nu - (intOf i).toNat)
      case atStart => exact ⟨0, by omega, rfl, RowsOwn.nil _ _ _, hB4, hat4⟩
      case round =>
        clear hB4 hat4
        obtain ⟨k, hk, rfl, hro, hB, hat⟩ := hrel
        have hsz := hat.1
        by_cases hlt : k < nu
        · obtain ⟨q0, q1, q2, q3⟩ := hat.c4
          obtain ⟨ss, h3, h5, h6⟩ := hro.own
          have H3 := hide h3; have H5 := hide h5; have H6 := hide h6
          clear h3 h5 h6 hro
          go_wp2_with fail
          refine (rDries_any Ac Af Au nc cc nf cf nu cu dry days cs fs us k wr (hnet.below hB) ((Hus.out.below hB).more hB.size) Hnu.out Hok.out Hin.out hlt).mono ?_
          rintro e w5 ⟨va, rfl, hoa, hb5⟩
          obtain ⟨Aa, ca, rfl, hra⟩ := hoa.rd
          obtain ⟨s, hse⟩ : ∃ s : Sl, s = ⟨Aa, (dryR cs fs dry (days * 1440) us k).length, ca⟩ := ⟨_, rfl⟩
          have hsv : Value.slice Aa (dryR cs fs dry (days * 1440) us k).length ca = .slice s.a s.n s.c := by rw [hse]
          rw [hsv] at hoa ⊢
          have Hoa := hide (show Own w5 wr.heap.size 3 1 icell s.val (dryR cs fs dry (days * 1440) us k) from hoa)
          have Hb5 := hide hb5
          have hB5 := hB.trans (hb5.mono hB.size)
          have hat5 := hat.below hb5
          have hsz5 := hb5.size
          have hr := hide (Rd.new (cells := Sl.cells) w5 #[.slice s.a s.n s.c] 23 [s] rfl)
          clear hra hse hsv hoa hb5 q0 q1 q2 q3
          go_wp2_with (at_builtin; refine wpList_app (v := u6) (xs := ss) (ys := [s]) (n := 1) el_rows rfl (.tmp 21) (.tmp 26) rfl rfl ((H3.out.below Hb5.out).alloc _) rfl rfl hr.out (by have := H5.out; omega) (by simp; omega) ?_; intro vv wv hown1 hg1 hat1; have Hst := hide (RowsOwn.step (by omega) H3.out H5.out H6.out Hb5.out Hoa.out hown1 hg1 (by simpa using hat1)); have hk1 := kept_app2 (H3.out.below Hb5.out) (below_new w5 _) hg1; have hrow : ¬ u6.ownBlock = some w.heap.size := (fun e => by have := (own_block H3.out e).1; omega); have Hat6 := hide (hat5.kept hk1 hrow); have HB6 := hide (hB5.trans (hk1.below (B := w.heap.size) (fun b hb e => by have := (own_block H3.out e).1; omega) hB5.size)); clear hk1 hown1 hg1 hat1)
          exact ⟨⟨k + 1, by omega, by go_num, Hst.out, HB6.out, Hat6.out⟩, by simp [intOf]; omega⟩
        · obtain rfl : nu = k := by omega
          have Hro := hide hro
          clear hro
          go_wp2_with fail
          go_ret2
          obtain ⟨ss, hs1, hs2⟩ := Hro.out.rows
          rw [Hnu.out] at hs2
          exact ⟨_, rfl, ss, hs1.mono (by omega), hs2, hB⟩
end Go.Proofs.Ytgklcilpohkpkaa
