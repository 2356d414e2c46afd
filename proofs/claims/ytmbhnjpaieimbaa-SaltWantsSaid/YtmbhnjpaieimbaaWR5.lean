/- The reference of channel: Waters, gets, Minutes, by contracts. -/
import Derived.Test.YtmbhnjpaieimbaaWR1
import Derived.Test.YtmbhnjpaieimbaaW8
import Derived.Test.YtmbhnjpaieimbaaR1
set_option linter.unusedVariables false
set_option linter.unusedSimpArgs false
namespace Go.Proofs.Ytmbhnjpaieimbaa
open Go.RowKit Go.Shelf
attribute [local go_sem ↓] Go.wp_at_zero Go.wp_at_succ
/-- A span through a path. -/
def getS (cs : List Ca) (p : List Int) (v : Sp) : Sp := p.foldl (fun v c => goF (wkT cs c) v) v
theorem getS_snoc {cs : List Ca} {p : List Int} {v : Sp} {k : Nat} {c : Int} (h : p[k]? = some c) : getS cs (p.take (k + 1)) v = goF (wkT cs c) (getS cs (p.take k) v) := by
  unfold getS
  rw [List.take_add_one, h]
  simp
theorem getS_lo (cs : List Ca) : ∀ (p : List Int) (v : Sp), (getS cs p v).lo = getK cs p v.lo
  | [], _ => rfl
  | c :: p, v => by
    show (getS cs p (goF (wkT cs c) v)).lo = getK cs p (goF (wkT cs c) ⟨v.lo, v.lo⟩).lo
    rw [getS_lo cs p]
    rfl
theorem getS_amts {cs : List Ca} {fs : List Int} {dry days : Int} (hok : netOk cs fs dry days = true) (p : List Int) {v : Sp} (hv : amts v) : ∀ k, k ≤ p.length → amts (getS cs (p.take k) v) := by
  intro k
  induction k with
  | zero => intro _; simpa [getS] using hv
  | succ k ih =>
    intro hk
    rw [getS_snoc (List.getElem?_eq_getElem (by omega : k < p.length))]
    exact goF_amt (wkT_wf hok _) (ih (by omega))
/-- One box may be turned, all else stands. -/
structure GS (w : World) (b : Nat) (W : World) : Prop where
  k : Kept (fun x => x ≠ b) w W
  a : ∃ x y : Value, At W b [x, y]
  f : ∀ j : Nat, W.frozen? ⟨b, j, none⟩ = false
theorem GS.refl {w : World} {b : Nat} {x y : Value} (h : At w b [x, y]) (f : ∀ j : Nat, w.frozen? ⟨b, j, none⟩ = false) : GS w b w := ⟨Kept.refl _ _, ⟨x, y, h⟩, f⟩
theorem GS.keep {w W W' : World} {b : Nat} (h : GS w b W) (hb : Below W.heap.size W W') : GS w b W' := by
  obtain ⟨x, y, ha⟩ := h.a
  exact ⟨h.k.trans (Kept.all _ hb), ⟨x, y, ha.below hb⟩, frz_below h.f ha.1 hb⟩
theorem GS.drew {w W : World} {b : Nat} (h : GS w b W) : GS w b W.drew := h.keep (Below.refl _ _).drew
theorem GS.set2 {w W : World} {b : Nat} (h : GS w b W) (u v : Value) : GS w b ((W.setCell ⟨b, 0, none⟩ u).setCell ⟨b, 1, none⟩ v) := by
  obtain ⟨x, y, ha⟩ := h.a
  exact ⟨h.k.trans ((Kept.setCell _ ⟨b, 0, none⟩ _).trans (Kept.setCell _ ⟨b, 1, none⟩ _)), ⟨u, v, by simpa using (ha.set (j := 0) u (by simp)).set (j := 1) v (by simp)⟩, fun j => by rw [World.frozen?_setCell, World.frozen?_setCell]; exact h.f j⟩
set_option maxHeartbeats 4000000 in
set_option maxRecDepth 100000 in
theorem rGets_any (Ac Af : Option Addr) (nc cc nf cf : Nat) (dry days a b k t : Int) (cs : List Ca) (fs : List Int) (w : World) (hnet : NetAt w Ac Af nc nf cs fs) (hok : netOk cs fs dry days = true) (hv : amts ⟨a * t, b * t⟩) (k0 : 0 ≤ k) (k1 : k < nf) :
    Calls Try.prog 112 #[.agg #[.slice Ac nc cc, .slice Af nf cf, .int .i64 dry, .int .i64 days], .agg #[.int .i64 a, .int .i64 b], .int .i64 k, .int .i64 t] w fun e w' => e = .returned (.int .i64 (getK cs (pathK cs fs k) (a * t))) ∧ Below w.heap.size w w' := by
  have e1 := w64 (x := a * t) (by have := hv.1.1; have := hv.1.2; simp only at *; omega)
  have e2 := w64 (x := b * t) (by have := hv.2.1; have := hv.2.2; simp only at *; omega)
  obtain ⟨w3, Hw3⟩ : ∃ w3, Hid (((w.alloc (.cells #[.slice Ac nc cc, .slice Af nf cf, .int .i64 dry, .int .i64 days] 43)).alloc (.cells #[.int .i64 a, .int .i64 b] 23)).alloc (.cells #[.int .i64 (a*t), .int .i64 (b*t)] 23) = w3) := ⟨_, hide rfl⟩
  have hn3 : At w3 w.heap.size [.slice Ac nc cc, .slice Af nf cf, .int .i64 dry, .int .i64 days] := by rw [← Hw3.out]; exact ((At.new w #[.slice Ac nc cc, .slice Af nf cf, .int .i64 dry, .int .i64 days] _ _ rfl _ rfl).alloc _).alloc _
  have h93 : At w3 (w.heap.size + 1 + 1) [.int .i64 (a*t), .int .i64 (b*t)] := by rw [← Hw3.out]; exact At.new _ #[.int .i64 (a*t), .int .i64 (b*t)] _ _ (by simp) _ rfl
  have g93 : ∀ j : Nat, w3.frozen? ⟨w.heap.size + 1 + 1, j, none⟩ = false := fun j => by rw [← Hw3.out]; exact At.frozen_new _ _ _ _ (by simp) j
  have hB3 : Below w.heap.size w w3 := by rw [← Hw3.out]; exact ((below_new w _).alloc (by simp) _).alloc (by simp; omega) _
  obtain ⟨q0, q1, q2, q3⟩ := hn3.c4
  rw [← Hw3.out] at q0 q1 q2 q3
  have Hamt := hide (getS_amts hok (pathK cs fs k) hv)
  have E1 := hide e1; have E2 := hide e2; have Hnet := hide hnet; have Hok := hide hok; have Hv := hide hv
  clear e1 e2 hnet hok hv
  refine (callsIn_wide (n := 9)).1 ?_
  refine callsIn_of_wp Try.func112 rfl trivial ?_ rfl
  simp only [Try.ntmps112, List.size_toArray, List.length_cons, List.length_nil, Nat.reduceAdd, Nat.reduceSub, Array.replicate_succ, Array.replicate_zero, List.push_toArray, List.append_toArray, List.nil_append, List.cons_append]
  gi_wp2_with fail
  rw [E1.out, E2.out, Hw3.out]
  refine wcall ((rPath_any Ac Af nc cc nf cf dry days cs fs k w3 (Hnet.out.below hB3) Hok.out k0 k1).mono ?_)
  rintro e w4 ⟨vp, rfl, hp, hb4⟩
  obtain ⟨Ap, cp, rfl, hrp⟩ := hp.rd
  obtain ⟨m, hm⟩ : ∃ m, m = (pathK cs fs k).length := ⟨_, rfl⟩
  rw [← hm] at hp ⊢
  have hm16 : m ≤ 16 := by rw [hm]; exact pathK_len cs fs Hok.out k0 (by rw [← Hnet.out.ef]; exact k1)
  have Hpr := hide (fun (x : Int) (hx : x ∈ pathK cs fs k) => show 0 ≤ x ∧ x < cs.length from by
    have h : x ∈ upK cs fs k := by simpa [pathK, pathF, upK] using hx
    exact upK_okI Hok.out (k := k) k0 (by rw [← Hnet.out.ef]; exact k1) h)
  have Hm := hide hm; have Hp := hide hp
  have hn4 := hn3.below hb4
  have h94 := h93.below hb4
  have g94 := frz_below g93 h93.1 hb4
  have hB4 := hB3.trans (hb4.mono hB3.size)
  have h3s := h93.1
  have h4s := hb4.size
  clear hrp hm hp q0 q1 q2 q3 hn3 h93 g93
  gi_wp2_with fail
  refine wpIn_loop_rounds (m + 1) (rounds_of (fun r a1 wr => ∃ j : Nat, j + r = m + 1 ∧ j ≤ m ∧ a1.tmps.size = 45 ∧ a1.defers = [] ∧ slot a1 4 = .pointer (some ⟨w.heap.size, 0, none⟩) ∧ slot a1 5 = .pointer (some ⟨w.heap.size + 1, 0, none⟩) ∧ slot a1 9 = .pointer (some ⟨w.heap.size + 1 + 1, 0, none⟩) ∧ slot a1 10 = .slice Ap m cp ∧ slot a1 11 = .int .i64 j ∧ At wr w.heap.size [.slice Ac nc cc, .slice Af nf cf, .int .i64 dry, .int .i64 days] ∧ At wr (w.heap.size + 1 + 1) [.int .i64 (getS cs ((pathK cs fs k).take j) ⟨a * t, b * t⟩).lo, .int .i64 (getS cs ((pathK cs fs k).take j) ⟨a * t, b * t⟩).hi] ∧ (∀ j : Nat, wr.frozen? ⟨w.heap.size + 1 + 1, j, none⟩ = false) ∧
    Kept (fun x => x ≠ w.heap.size + 1 + 1) w4 wr ∧ Below w.heap.size w wr) ?_ ?_ (m + 1) _ _ ⟨0, by omega, by omega, by first | rfl | trivial, by first | rfl | trivial, by first | rfl | trivial, by first | rfl | trivial, by first | rfl | trivial, by first | rfl | trivial, by first | rfl | trivial, hn4, h94, g94, Kept.refl _ _, hB4⟩)
  · rintro a wr ⟨j, hj, hj2, _⟩
    omega
  · clear hn4 h94 g94
    rintro r a1 wr ⟨j, hjr, hj, hs, hd, s4, s5, s9, s10, s11, hn, h9, g9, hK, hB⟩
    rw [act_eq hs hd]
    obtain ⟨u, hu⟩ : ∃ u, u = slot a1 := ⟨_, rfl⟩
    rw [← hu] at s4 s5 s9 s10 s11 ⊢
    have he : ({ tmps := ((List.range 45).map u).toArray, defers := [] } : Act) = { tmps := #[(u 0), (u 1), (u 2), (u 3), (u 4), (u 5), (u 6), (u 7), (u 8), (u 9), (u 10), (u 11), (u 12), (u 13), (u 14), (u 15), (u 16), (u 17), (u 18), (u 19), (u 20), (u 21), (u 22), (u 23), (u 24), (u 25), (u 26), (u 27), (u 28), (u 29), (u 30), (u 31), (u 32), (u 33), (u 34), (u 35), (u 36), (u 37), (u 38), (u 39), (u 40), (u 41), (u 42), (u 43), (u 44)], defers := [] } := rfl
    rw [he, s4, s5, s9, s10, s11]
    clear he hs hd hu s4 s5 s9 s10 s11
    obtain ⟨V, hV⟩ : ∃ V, V = getS cs ((pathK cs fs k).take j) ⟨a * t, b * t⟩ := ⟨_, rfl⟩
    have hVa := Hamt.out j (by have := Hm.out; omega)
    rw [← hV] at hVa h9
    obtain ⟨v0, v1⟩ := V
    dsimp only at h9
    have HV := hide hV; have HVa := hide hVa
    clear hV hVa
    by_cases hlt : j < m
    · have hpr := ((Hp.out.keptB hK (fun g hg => by have := (own_block Hp.out hg).1; omega)).rdv).2
      obtain ⟨bp, offp, c, rfl, hbp, hxc, cp0⟩ := hpr.int (i := j) (by rw [← Hm.out]; exact hlt)
      obtain ⟨cc0, cc1⟩ := Hpr.out c (List.mem_of_getElem? hxc)
      obtain ⟨cn, rfl⟩ : ∃ cn : Nat, c = cn := ⟨c.toNat, by omega⟩
      have hcn : cn < cs.length := by omega
      obtain ⟨bc, offc, cf0, s0, s1, l0, l1, rfl, hbc, hca, e0, e1, e2, e3, e4⟩ := (Hnet.out.rc.below hB).ca (i := cn) hcn
      have hcb := (caAll_iff 0 cs).1 (netOk_parts Hok.out).2.2.2.2.2.1 _ _ hca
      simp only [caOk, inB, Sp.ok, Bool.and_eq_true, decide_eq_true_eq] at hcb
      obtain ⟨_, ⟨⟨B0, B1⟩, B2⟩, ⟨B3, B4⟩, B5⟩ := hcb
      have Hwk := hide (show wkT cs cn = (wkF ⟨s0, s1⟩ ⟨l0, l1⟩ true) from by unfold wkT; rw [Int.toNat_natCast, hca])
      have hn1 := Hnet.out.ec
      have i0 : (0 : Int) ≤ (j : Int) := by omega
      have i1 : (j : Int) < (m : Int) := by omega
      have i2 : (cn : Int) < (nc : Int) := by omega
      have Hxc := hide hxc; have Hn1 := hide hn1
      clear hpr hxc hca hn1
      gi_wp2_with fail
      have hneA : bp ≠ w.heap.size + 1 + 1 := fun e => by have := (own_block Hp.out (g := bp) rfl).1; omega
      have hneC : bc < w.heap.size := hbc
      have hws := hB.size
      have h9s := h9.1
      refine wpIn_region_S (S := (fun W => GS wr (w.heap.size + 1 + 1) W)) (z := 14) (by kernel_rfl) (by (try dsimp only); exact (GS.refl h9 g9).drew) (fun hHeld => ?_)
      refine wpAnyS_take (i := 0) (oi := ⟨_, _, _, _, _, _⟩) (v := ?_) rfl (fun _ => trivial) (by kernel_rfl) (by kernel_rfl) (by kernel_rfl) (by kernel_rfl) (fun _ _ _ h => h) (Or.inl ⟨by rfl, ?_⟩) hHeld ?_
      rotate_left
      · (intro w hSw; (try dsimp only at hSw); go_simp; try (with_reducible rfl))
      try simp only [Act.put, List.setIfInBounds_toArray, List.set_cons_zero, List.set_cons_succ]
      refine wpAnyS_take (i := 1) (oi := ⟨_, _, _, _, _, _⟩) (v := ?_) rfl (fun _ => trivial) (by kernel_rfl) (by kernel_rfl) (by kernel_rfl) (by kernel_rfl) (fun _ _ _ h => h) (Or.inl ⟨by rfl, ?_⟩) hHeld ?_
      rotate_left
      · (intro w hSw; (try dsimp only at hSw); obtain ⟨q0, q1, q2, q3⟩ := (hn.kept hSw.k (by omega)).c4; have c0 := (hSw.k.cell (p := ⟨bp, offp + j, none⟩) (by show bp ≠ _; omega) hbp).trans cp0; have e0 := (hSw.k.cell (p := ⟨bc, offc + cn * 5, none⟩) (by show bc ≠ _; omega) (by show bc < _; omega)).trans e0; have e1 := (hSw.k.cell (p := ⟨bc, offc + cn * 5 + 1, none⟩) (by show bc ≠ _; omega) (by show bc < _; omega)).trans e1; have e2 := (hSw.k.cell (p := ⟨bc, offc + cn * 5 + 2, none⟩) (by show bc ≠ _; omega) (by show bc < _; omega)).trans e2; have e3 := (hSw.k.cell (p := ⟨bc, offc + cn * 5 + 3, none⟩) (by show bc ≠ _; omega) (by show bc < _; omega)).trans e3; have e4 := (hSw.k.cell (p := ⟨bc, offc + cn * 5 + 4, none⟩) (by show bc ≠ _; omega) (by show bc < _; omega)).trans e4; go_simp; try (with_reducible rfl))
      try simp only [Act.put, List.setIfInBounds_toArray, List.set_cons_zero, List.set_cons_succ]
      refine wpAnyS_take (i := 2) (oi := ⟨_, _, _, _, _, _⟩) (v := ?_) rfl (fun _ => trivial) (by kernel_rfl) (by kernel_rfl) (by kernel_rfl) (by kernel_rfl) (fun _ _ _ h => h) (Or.inl ⟨by rfl, ?_⟩) hHeld ?_
      rotate_left
      · (intro w hSw; (try dsimp only at hSw); go_simp; try (with_reducible rfl))
      try simp only [Act.put, List.setIfInBounds_toArray, List.set_cons_zero, List.set_cons_succ]
      refine wpAnyS_take (i := 3) (oi := ⟨_, _, _, _, _, _⟩) (v := ?_) rfl (fun _ => trivial) (by kernel_rfl) (by kernel_rfl) (by kernel_rfl) (by kernel_rfl) (fun _ _ _ h => h) (Or.inl ⟨by rfl, ?_⟩) hHeld ?_
      rotate_left
      · (intro w hSw; (try dsimp only at hSw); go_simp; try (with_reducible rfl))
      try simp only [Act.put, List.setIfInBounds_toArray, List.set_cons_zero, List.set_cons_succ]
      refine wpAnyS_take (i := 4) (oi := ⟨_, _, _, _, _, _⟩) (v := ?_) rfl (fun _ => trivial) (by kernel_rfl) (by kernel_rfl) (by kernel_rfl) (by kernel_rfl) (fun _ _ _ h => h) (Or.inl ⟨by rfl, ?_⟩) hHeld ?_
      rotate_left
      · (intro w hSw; (try dsimp only at hSw); go_simp; try (with_reducible rfl))
      try simp only [Act.put, List.setIfInBounds_toArray, List.set_cons_zero, List.set_cons_succ]
      refine wpAnyS_take (i := 5) (oi := ⟨_, _, _, _, _, _⟩) (v := ?_) rfl (fun _ => trivial) (by kernel_rfl) (by kernel_rfl) (by kernel_rfl) (by kernel_rfl) (fun _ _ _ h => h) (Or.inl ⟨by rfl, ?_⟩) hHeld ?_
      rotate_left
      · (intro w hSw; (try dsimp only at hSw); obtain ⟨q0, q1, q2, q3⟩ := (hn.kept hSw.k (by omega)).c4; have c0 := (hSw.k.cell (p := ⟨bp, offp + j, none⟩) (by show bp ≠ _; omega) hbp).trans cp0; have e0 := (hSw.k.cell (p := ⟨bc, offc + cn * 5, none⟩) (by show bc ≠ _; omega) (by show bc < _; omega)).trans e0; have e1 := (hSw.k.cell (p := ⟨bc, offc + cn * 5 + 1, none⟩) (by show bc ≠ _; omega) (by show bc < _; omega)).trans e1; have e2 := (hSw.k.cell (p := ⟨bc, offc + cn * 5 + 2, none⟩) (by show bc ≠ _; omega) (by show bc < _; omega)).trans e2; have e3 := (hSw.k.cell (p := ⟨bc, offc + cn * 5 + 3, none⟩) (by show bc ≠ _; omega) (by show bc < _; omega)).trans e3; have e4 := (hSw.k.cell (p := ⟨bc, offc + cn * 5 + 4, none⟩) (by show bc ≠ _; omega) (by show bc < _; omega)).trans e4; go_simp; try (with_reducible rfl))
      try simp only [Act.put, List.setIfInBounds_toArray, List.set_cons_zero, List.set_cons_succ]
      refine wpAnyS_take (i := 6) (oi := ⟨_, _, _, _, _, _⟩) (v := ?_) rfl (fun _ => trivial) (by kernel_rfl) (by kernel_rfl) (by kernel_rfl) (by kernel_rfl) (fun _ _ _ h => h) (Or.inl ⟨by rfl, ?_⟩) hHeld ?_
      rotate_left
      · (intro w hSw; (try dsimp only at hSw); go_simp; try (with_reducible rfl))
      try simp only [Act.put, List.setIfInBounds_toArray, List.set_cons_zero, List.set_cons_succ]
      refine wpAnyS_take (i := 7) (oi := ⟨_, _, _, _, _, _⟩) (v := ?_) rfl (fun _ => trivial) (by kernel_rfl) (by kernel_rfl) (by kernel_rfl) (by kernel_rfl) (fun _ _ _ h => h) (Or.inl ⟨by rfl, ?_⟩) hHeld ?_
      rotate_left
      · (intro w hSw; (try dsimp only at hSw); obtain ⟨q0, q1, q2, q3⟩ := (hn.kept hSw.k (by omega)).c4; have c0 := (hSw.k.cell (p := ⟨bp, offp + j, none⟩) (by show bp ≠ _; omega) hbp).trans cp0; have e0 := (hSw.k.cell (p := ⟨bc, offc + cn * 5, none⟩) (by show bc ≠ _; omega) (by show bc < _; omega)).trans e0; have e1 := (hSw.k.cell (p := ⟨bc, offc + cn * 5 + 1, none⟩) (by show bc ≠ _; omega) (by show bc < _; omega)).trans e1; have e2 := (hSw.k.cell (p := ⟨bc, offc + cn * 5 + 2, none⟩) (by show bc ≠ _; omega) (by show bc < _; omega)).trans e2; have e3 := (hSw.k.cell (p := ⟨bc, offc + cn * 5 + 3, none⟩) (by show bc ≠ _; omega) (by show bc < _; omega)).trans e3; have e4 := (hSw.k.cell (p := ⟨bc, offc + cn * 5 + 4, none⟩) (by show bc ≠ _; omega) (by show bc < _; omega)).trans e4; go_simp; try (with_reducible rfl))
      try simp only [Act.put, List.setIfInBounds_toArray, List.set_cons_zero, List.set_cons_succ]
      refine wpAnyS_ready (rs := [8]) (by kernel_rfl) (by simp) ?_
      refine AllS.cons (o := ⟨_, _, _, _, _, _⟩) rfl (fun _ => trivial) (fun K hK => ?_) AllS.nil
      obtain ⟨o0, o1⟩ := h9.c2
      go_simp
      refine hK.out _ _ ?_ (fun hHeld2 => ?_)
      · intro _; (try dsimp only)
        (first | exact hHeld | exact hHeld.keep hb | exact hHeld.drew | exact hHeld.set2 _ _)
      clear hK K hHeld; have hHeld := hHeld2 (by decide); clear hHeld2
      try simp only [Act.put, List.setIfInBounds_toArray, List.set_cons_zero, List.set_cons_succ]
      refine wpAnyS_ready (rs := [9]) (by kernel_rfl) (by simp) ?_
      refine AllS.cons (o := ⟨_, _, _, _, _, _⟩) rfl (fun _ => trivial) (fun K hK => ?_) AllS.nil
      go_simp
      refine wcall ((rThrough_any cf0 s0 s1 l0 l1 v0 v1 true _ ⟨B0, B1, B2⟩ ⟨B3, B4, B5⟩ HVa.out).mono ?_)
      rintro e w' ⟨rfl, hb⟩
      gi_wp2_with fail
      refine hK.out _ _ ?_ (fun hHeld2 => ?_)
      · intro _; (try dsimp only)
        (first | exact hHeld | exact hHeld.keep hb | exact hHeld.drew | exact hHeld.set2 _ _)
      clear hK K hHeld; have hHeld := hHeld2 (by decide); clear hHeld2
      try simp only [Act.put, List.setIfInBounds_toArray, List.set_cons_zero, List.set_cons_succ]
      refine wpAnyS_take (i := 10) (oi := ⟨_, _, _, _, _, _⟩) (v := ?_) rfl (fun _ => trivial) (by kernel_rfl) (by kernel_rfl) (by kernel_rfl) (by kernel_rfl) (fun _ _ _ h => h) (Or.inl ⟨by rfl, ?_⟩) hHeld ?_
      rotate_left
      · (intro w hSw; (try dsimp only at hSw); go_simp; try (with_reducible rfl))
      try simp only [Act.put, List.setIfInBounds_toArray, List.set_cons_zero, List.set_cons_succ]
      refine wpAnyS_take (i := 11) (oi := ⟨_, _, _, _, _, _⟩) (v := ?_) rfl (fun _ => trivial) (by kernel_rfl) (by kernel_rfl) (by kernel_rfl) (by kernel_rfl) (fun _ _ _ h => h) (Or.inl ⟨by rfl, ?_⟩) hHeld ?_
      rotate_left
      · (intro w hSw; (try dsimp only at hSw); go_simp; try (with_reducible rfl))
      try simp only [Act.put, List.setIfInBounds_toArray, List.set_cons_zero, List.set_cons_succ]
      refine wpAnyS_take (i := 12) (oi := ⟨_, _, _, _, _, _⟩) (v := ?_) rfl (fun _ => trivial) (by kernel_rfl) (by kernel_rfl) (by kernel_rfl) (by kernel_rfl) (fun _ _ _ h => h) (Or.inl ⟨by rfl, ?_⟩) hHeld ?_
      rotate_left
      · (intro w hSw; (try dsimp only at hSw); go_simp; try (with_reducible rfl))
      try simp only [Act.put, List.setIfInBounds_toArray, List.set_cons_zero, List.set_cons_succ]
      refine wpAnyS_ready (rs := [13]) (by kernel_rfl) (by simp) ?_
      refine AllS.cons (o := ⟨_, _, _, _, _, _⟩) rfl (fun _ => trivial) (fun K hK => ?_) AllS.nil
      obtain ⟨x9, y9, h9x⟩ := hHeld.a
      obtain ⟨z0, z1⟩ := h9x.c2
      have H9x := hide h9x
      have y0 := hHeld.f 0
      have y1 := hHeld.f 1
      have hH := hHeld
      go_simp
      refine hK.out _ _ ?_ (fun hHeld2 => ?_)
      · intro _; (try dsimp only)
        (first | exact hHeld | exact hHeld.keep hb | exact hHeld.drew | exact hHeld.set2 _ _)
      clear hK K hHeld; have hHeld := hHeld2 (by decide); clear hHeld2
      try simp only [Act.put, List.setIfInBounds_toArray, List.set_cons_zero, List.set_cons_succ]
      refine wpAnyS_done (by kernel_rfl) ?_ _
      have hfin := hHeld
      all_goals
        gi_wp2_with fail
        refine ⟨j + 1, by omega, by omega, by first | rfl | trivial, by first | rfl | trivial, by first | rfl | trivial, by first | rfl | trivial, by first | rfl | trivial, by first | rfl | trivial, by first | rfl | trivial, hn.kept hfin.k (by omega), ?_, hfin.f, hK.trans hfin.k, hB.trans (hfin.k.below (fun b hb => by omega) hB.size)⟩
        rw [getS_snoc Hxc.out, ← HV.out, Hwk.out]
        simpa using (H9x.out.set (j := 0) (.int .i64 (goF (wkF ⟨s0, s1⟩ ⟨l0, l1⟩ true) ⟨v0, v1⟩).lo) (by simp)).set (j := 1) (.int .i64 (goF (wkF ⟨s0, s1⟩ ⟨l0, l1⟩ true) ⟨v0, v1⟩).hi) (by simp)
    · obtain rfl : j = m := by omega
      obtain ⟨o0, o1⟩ := h9.c2
      gi_wp2_with fail
      go_ret
      refine ⟨ret_int ?_, hB⟩
      have h := HV.out
      rw [List.take_of_length_le (by have := Hm.out; omega)] at h
      rw [show v0 = (⟨v0, v1⟩ : Sp).lo from rfl, h, getS_lo]

end Go.Proofs.Ytmbhnjpaieimbaa
