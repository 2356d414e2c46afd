/- Gallery, outright: numbers that choose, and what flows in truth, by contract. Gallery, outright: what flows in truth, by contract. Gallery, outright: gauges that are true of flows, by contract. Gallery, outright: whether a gallery is ready, by contract; what flows in truth fits what was read: plain. -/
import Derived.Test.YtkmocikcohhdoaaJ0
import Derived.Test.YtkmocikcohhdoaaOpenW
import Derived.Test.YtkmocikcohhdoaaG7
import Derived.Deep.QuietTactic
import Derived.BigQuiet
set_option linter.unusedVariables false
set_option linter.unusedSimpArgs false
namespace Go.Proofs.Ytkmocikcohhdoaa
open Go.RowKit Go.Shelf
attribute [local go_sem] ite_min ite_max
theorem ite_max1 (a b : Int) : (if b < a then a - b else 0) = max 0 (a - b) := by rw [Int.max_def]; split <;> split <;> omega
attribute [local go_sem] ite_max1
section
attribute [local go_sem ↓] Go.wp_at_zero Go.wp_at_succ
set_option maxHeartbeats 4000000 in
set_option maxRecDepth 100000 in
theorem gat_any (A : Option Addr) (n c : Nat) (xs : List Nat) (i : Int) (w : World) (hn : n = xs.length) (h32 : ∀ x ∈ xs, x ≤ 4294967295) (hx : Rd w w.heap.size u32cell A xs) (hn2 : n ≤ 9223372036854775807) (i0 : 0 ≤ i) (i1 : i ≤ 1000) :
    Calls Try.prog 50 #[.slice A n c, .int .i64 i] w fun e w' => ∃ m : Nat, e = .returned (.int .u32 (m : Int)) ∧ m ≤ 4294967295 ∧ Below w.heap.size w w' := by
  obtain ⟨j, rfl⟩ : ∃ j : Nat, i = j := ⟨i.toNat, by omega⟩
  by_cases hz : n = 0
  · subst hz
    go_enter Try.func50, Try.ntmps50
    go_wp2_with fail
    go_ret
    exact ⟨0, rfl, by omega, Below.refl _ _⟩
  have hm : j % n < n := Nat.mod_lt _ (by omega)
  obtain ⟨k, hk⟩ : ∃ k, k = j % n := ⟨_, rfl⟩
  rw [← hk] at hm
  obtain ⟨b, off, x, rfl, hb, hxk, c0⟩ := hx.u32 (i := k) (by omega)
  have hxm := h32 x (List.mem_of_getElem? hxk)
  have t1 : Int.tmod (j : Int) (n : Int) = (k : Int) := by rw [Int.tmod_eq_emod_of_nonneg (by omega), hk]; exact (Int.natCast_emod j n).symm
  have t2 : (j : Int) % (n : Int) = (k : Int) := by rw [hk]; exact (Int.natCast_emod j n).symm
  have nz : ((n : Int) == 0) = false := by simpa using hz
  have nz2 : ¬ (n : Int) = 0 := by omega
  clear hk hxk hx hn
  go_enter Try.func50, Try.ntmps50
  go_wp2_with fail
  go_ret
  exact ⟨x, rfl, hxm, Below.refl _ _⟩
set_option maxHeartbeats 4000000 in
set_option maxRecDepth 100000 in
theorem gpick_any (lo hi : Int) (m : Nat) (w : World) (h0 : 0 ≤ lo) (h1 : lo ≤ hi) (h2 : hi ≤ 1000000000000) (hm : m ≤ 4294967295) :
    Calls Try.prog 49 #[.agg #[.int .i64 lo, .int .i64 hi], .int .u32 (m : Int)] w fun e w' => ∃ r, e = .returned (.int .i64 r) ∧ inS r ⟨lo, hi⟩ ∧ Below w.heap.size w w' := by
  obtain ⟨W, HW⟩ : ∃ W, Hid (w.alloc (.cells #[.int .i64 lo, .int .i64 hi] 24) = W) := ⟨_, hide rfl⟩
  have hx : At W w.heap.size [.int .i64 lo, .int .i64 hi] := by rw [← HW.out]; exact At.new w #[.int .i64 lo, .int .i64 hi] _ _ rfl _ rfl
  have hB : Below w.heap.size w W := by rw [← HW.out]; exact below_new w _
  obtain ⟨q0, q1⟩ := hx.c2
  have fm : IntKind.i64.wrap (m : Int) = m := wrapI (by omega)
  have e1 : (0 : Int) ≤ (m : Int) % (hi - lo + 1) ∧ (m : Int) % (hi - lo + 1) < hi - lo + 1 := ⟨Int.emod_nonneg _ (by omega), Int.emod_lt_of_pos _ (by omega)⟩
  obtain ⟨r, hr⟩ : ∃ r, r = (m : Int) % (hi - lo + 1) := ⟨_, rfl⟩
  rw [← hr] at e1
  have t1 : Int.tmod (m : Int) (hi - lo + 1) = r := by rw [Int.tmod_eq_emod_of_nonneg (by omega), hr]
  have nz : ¬ hi - lo + 1 = 0 := by omega
  have Hr := hide hr
  clear hr hx
  go_enter Try.func49, Try.ntmps49
  go_wp2_with fail
  rw [HW.out]
  go_quiet (fail)
  go_wp2_with fail
  go_ret
  exact ⟨lo + r, by first | rfl | simp, ⟨by show lo ≤ _; omega, by show _ ≤ hi; omega⟩, below_drewN hB _⟩
end
/-- Three rows of numbers, apart. -/
structure R3 (w : World) (base : Nat) (v1 v2 v3 : Value) (xs ys zs : List Int) : Prop where
  o1 : Own w base 3 1 icell v1 xs
  o2 : Own w base 3 1 icell v2 ys
  o3 : Own w base 3 1 icell v3 zs
  n12 : ∀ q, v1.ownBlock = some q → ¬ v2.ownBlock = some q
  n23 : ∀ q, v2.ownBlock = some q → ¬ v3.ownBlock = some q
  n31 : ∀ q, v3.ownBlock = some q → ¬ v1.ownBlock = some q
section
variable {w w' : World} {base : Nat} {v1 v2 v3 v' : Value} {xs ys zs us : List Int}
theorem R3.nil (w : World) (base : Nat) : R3 w base (.slice none 0 0) (.slice none 0 0) (.slice none 0 0) [] [] [] := by
  refine ⟨Own.nil _ _ _ _ _, Own.nil _ _ _ _ _, Own.nil _ _ _ _ _, ?_, ?_, ?_⟩
  all_goals
    intro q h
    simp [Value.ownBlock] at h
theorem R3.rot (h : R3 w base v1 v2 v3 xs ys zs) : R3 w base v2 v3 v1 ys zs xs := ⟨h.o2, h.o3, h.o1, h.n23, h.n31, h.n12⟩
theorem R3.bel (h : R3 w base v1 v2 v3 xs ys zs) (hb : Below w.heap.size w w') : R3 w' base v1 v2 v3 xs ys zs := ⟨h.o1.bel hb, h.o2.bel hb, h.o3.bel hb, h.n12, h.n23, h.n31⟩
theorem R3.app (h : R3 w base v1 v2 v3 xs ys zs) (ho : Own w' base 3 1 icell v' us) (hg : w.grownBy w' v1.ownBlock) (hat : v'.ownBlock = v1.ownBlock ∨ v'.ownBlock = some w.heap.size) : R3 w' base v' v2 v3 us ys zs := by
  refine ⟨ho, h.o2.keptG (Kept.grown hg) (fun q hq e => h.n12 q e.symm hq), h.o3.keptG (Kept.grown hg) (fun q hq e => h.n31 q hq e.symm), fun q hq e => ?_, h.n23, fun q hq e => ?_⟩
  · rcases hat with h' | h'
    · exact h.n12 q (h'.symm.trans hq) e
    · rw [h'] at hq; injection hq with hq; have := (h.o2.blockG e).2; omega
  · rcases hat with h' | h'
    · exact h.n31 q hq (h'.symm.trans e)
    · rw [h'] at e; injection e with e; have := (h.o3.blockG hq).2; omega
end
/-- What flows in truth past the first k reaches: the flows, what is lost and gained. -/
structure RunP (g : List Rc) (s : Sp) (fs ls gs : List Int) (k : Nat) : Prop where
  lf : fs.length = k + 1
  ll : ls.length = k
  lg : gs.length = k
  start : inS (fs.getD 0 0) s
  bd : ∀ j, j ≤ k → 0 ≤ fs.getD j 0 ∧ fs.getD j 0 ≤ 2000000
  step : ∀ j r, j < k → g[j]? = some r → ∃ c l, inS c r.cap ∧ inS l r.leak ∧ inS (gs.getD j 0) r.gain ∧ fs.getD (j + 1) 0 = nextF (fs.getD j 0) c l (gs.getD j 0) ∧ ls.getD j 0 = fs.getD j 0 + gs.getD j 0 - fs.getD (j + 1) 0
theorem getD_app {xs : List Int} {y : Int} {j : Nat} (h : j < xs.length) : (xs ++ [y]).getD j 0 = xs.getD j 0 := by
  rw [List.getD_eq_getElem?_getD, List.getElem?_append_left h, List.getD_eq_getElem?_getD]
theorem getD_end {xs : List Int} {y : Int} {j : Nat} (h : j = xs.length) : (xs ++ [y]).getD j 0 = y := by
  subst h; rw [List.getD_eq_getElem?_getD, List.getElem?_append_right (Nat.le_refl _)]; simp
theorem RunP.init {g : List Rc} {s : Sp} {a : Int} (hs : s.fine 1000000) (ha : inS a s) : RunP g s [a] [] [] 0 :=
  ⟨rfl, rfl, rfl, ha, fun j hj => by
    obtain rfl : j = 0 := by omega
    obtain ⟨h1, h2, h3⟩ := hs
    obtain ⟨h4, h5⟩ := ha
    show 0 ≤ a ∧ a ≤ 2000000
    omega, fun j r hj => by omega⟩
theorem RunP.next {g : List Rc} {s : Sp} {fs ls gs : List Int} {k : Nat} {r : Rc} {c l m cur : Int} (h : RunP g s fs ls gs k) (hr : g[k]? = some r) (hf : r.fine) (hcur : cur = fs.getD k 0) (hc : inS c r.cap) (hl : inS l r.leak) (hm : inS m r.gain) :
    RunP g s (fs ++ [nextF cur c l m]) (ls ++ [cur + m - nextF cur c l m]) (gs ++ [m]) (k + 1) := by
  have e1 : ∀ j, j ≤ k → (fs ++ [nextF cur c l m]).getD j 0 = fs.getD j 0 := fun j hj => getD_app (by rw [h.lf]; omega)
  have e2 : (fs ++ [nextF cur c l m]).getD (k + 1) 0 = nextF cur c l m := getD_end h.lf.symm
  refine ⟨by simp [h.lf], by simp [h.ll], by simp [h.lg], by rw [e1 0 (by omega)]; exact h.start, fun j hj => ?_, fun j r' hj hr' => ?_⟩
  · by_cases e : j ≤ k
    · rw [e1 j e]; exact h.bd j e
    · obtain rfl : j = k + 1 := by omega
      rw [e2]
      obtain ⟨⟨h3, h4, h5⟩, ⟨h6, h7, h8⟩, ⟨h9, h10, h11⟩⟩ := hf
      simp only [nextF, inS] at *
      omega
  · by_cases e : j = k
    · subst e
      rw [hr] at hr'
      injection hr' with hr'
      subst hr'
      refine ⟨c, l, hc, hl, ?_, ?_, ?_⟩
      · rw [getD_end h.lg.symm]; exact hm
      · rw [e2, e1 j (Nat.le_refl _), getD_end h.lg.symm, hcur]
      · rw [getD_end h.ll.symm, getD_end h.lg.symm, e1 j (Nat.le_refl _), e2, hcur]
    · obtain ⟨c', l', h1, h2, h3, h4, h5⟩ := h.step j r' (by omega) hr'
      refine ⟨c', l', h1, h2, ?_, ?_, ?_⟩
      · rw [getD_app (by rw [h.lg]; omega)]; exact h3
      · rw [e1 (j + 1) (by omega), e1 j (by omega), getD_app (by rw [h.lg]; omega)]; exact h4
      · rw [getD_app (by rw [h.ll]; omega), e1 j (by omega), getD_app (by rw [h.lg]; omega), e1 (j + 1) (by omega)]; exact h5
end Go.Proofs.Ytkmocikcohhdoaa
namespace Go.Proofs.Ytkmocikcohhdoaa
open Go.RowKit Go.Shelf
attribute [local go_sem] ite_min ite_max ite_max1
def RunsPost (g : List Rc) (s : Sp) (n : Nat) (w : World) (e : Ending) (w' : World) : Prop :=
  ∃ A1 c1 A2 c2 A3 c3 fs ls gs, e = .returned (.tuple #[.slice A1 (n + 1) c1, .slice A2 n c2, .slice A3 n c3]) ∧ RunP g s fs ls gs n ∧ Rd w' w'.heap.size icell A1 fs ∧ Rd w' w'.heap.size icell A2 ls ∧ Rd w' w'.heap.size icell A3 gs ∧ Below w.heap.size w w'
set_option maxHeartbeats 4000000 in
set_option maxRecDepth 100000 in
theorem runs_any (A B : Option Addr) (g : List Rc) (s : Sp) (bys : List Nat) (n c nb cb : Nat) (w : World) (hn : n = g.length) (hn20 : n ≤ 20) (hx : Rd w w.heap.size Rc.cells A g)
    (hnb : nb = bys.length) (hnb2 : nb ≤ 9223372036854775807) (hby : Rd w w.heap.size u32cell B bys) (h32 : ∀ x ∈ bys, x ≤ 4294967295) (hfine : ∀ r ∈ g, r.fine) (hs : s.fine 1000000) :
    Calls Try.prog 36 #[.slice A n c, .agg #[.int .i64 s.lo, .int .i64 s.hi], .slice B nb cb] w (RunsPost g s n w) := by
  obtain ⟨b4, w1, e4, ew1, hx4, hb1, hz1⟩ := mk_bx w #[.int .i64 s.lo, .int .i64 s.hi] 24
  have Hn := hide hn; have Hnb := hide hnb; have Hnb2 := hide hnb2; have H32 := hide h32; have Hx : Hid (Rd w1 w1.heap.size Rc.cells A g) := hide ((hx.below hb1).more hb1.size)
  have rby : Rd w1 w1.heap.size u32cell B bys := (hby.below hb1).more hb1.size
  have Hx4 := hide hx4; have Hfine := hide hfine; have Hs := hide hs
  clear hn hnb hnb2 h32 hx hby hx4 hz1 hfine
  go_enter Try.func36, Try.ntmps36
  go_wp2_with fail
  rw [ew1.out, e4.out]
  refine wp_region_held_drew (S := (fun W => Below w1.heap.size w1 W)) (by kernel_rfl) (by (try dsimp only); exact (Below.refl _ _).drew) (fun hHeld => ?_)
  generalize World.drew w1 = Wd1 at hHeld ⊢
  have rby := rby.bel hHeld
  have hbc := Below.refl Wd1.heap.size Wd1
  refine wpAnyH_take (i := 0) (oi := ⟨_, _, _, _, _, _⟩) (v := ?_) rfl (by kernel_rfl) (by kernel_rfl) (by kernel_rfl) (fun _ _ _ h => h) (Or.inl ⟨by rfl, ?_⟩) hHeld ?_
  rotate_left
  · (intro w hSw; (try dsimp only at hSw); obtain ⟨q0, q1, _, _⟩ := (Hx4.out.bel hSw).w2; go_simp; try (with_reducible rfl))
  try simp only [Act.put, List.setIfInBounds_toArray, List.set_cons_zero, List.set_cons_succ]
  refine wpAnyH_take (i := 1) (oi := ⟨_, _, _, _, _, _⟩) (v := ?_) rfl (by kernel_rfl) (by kernel_rfl) (by kernel_rfl) (fun _ _ _ h => h) (Or.inl ⟨by rfl, ?_⟩) hHeld ?_
  rotate_left
  · (intro w hSw; (try dsimp only at hSw); go_simp; try (with_reducible rfl))
  try simp only [Act.put, List.setIfInBounds_toArray, List.set_cons_zero, List.set_cons_succ]
  refine wpAnyH_ready (rs := [2]) (by kernel_rfl) (by simp) ?_
  refine AllReadyH.cons (o := ⟨_, _, _, _, _, _⟩) rfl (fun K hK => ?_) AllReadyH.nil
  go_simp
  refine (gat_any _ _ _ bys _ _ Hnb.out H32.out rby Hnb2.out (by omega) (by omega)).mono ?_
  rintro e V16 ⟨m16, rfl, hm16, hb⟩
  go_wp2_with fail
  have hHeldN := hHeld.trans (hb.mono hHeld.size)
  have rby := rby.bel hb
  have hbc := hbc.trans (hb.mono hbc.size)
  refine hK.out _ _ ?_ (fun hHeld2 => ?_)
  · exact hHeldN
  clear hK K hHeld hHeldN hb; have hHeld := hHeld2; clear hHeld2
  try simp only [Act.put, List.setIfInBounds_toArray, List.set_cons_zero, List.set_cons_succ]
  refine wpAnyH_ready (rs := [3]) (by kernel_rfl) (by simp) ?_
  refine AllReadyH.cons (o := ⟨_, _, _, _, _, _⟩) rfl (fun K hK => ?_) AllReadyH.nil
  go_simp
  refine (gpick_any _ _ _ _ hs.1 hs.2.1 (by have := hs.2.2; omega) hm16).mono ?_
  rintro e V17 ⟨r17, rfl, hr17, hb⟩
  have hq17 := hr17
  unfold inS at hq17
  dsimp only at hq17
  obtain ⟨hl17, hu17⟩ := hq17
  go_wp2_with fail
  have hHeldN := hHeld.trans (hb.mono hHeld.size)
  have rby := rby.bel hb
  have hbc := hbc.trans (hb.mono hbc.size)
  refine hK.out _ _ ?_ (fun hHeld2 => ?_)
  · exact hHeldN
  clear hK K hHeld hHeldN hb; have hHeld := hHeld2; clear hHeld2
  try simp only [Act.put, List.setIfInBounds_toArray, List.set_cons_zero, List.set_cons_succ]
  refine wpAnyH_take (i := 4) (oi := ⟨_, _, _, _, _, _⟩) (v := ?_) rfl (by kernel_rfl) (by kernel_rfl) (by kernel_rfl) (fun _ _ _ h => h) (Or.inl ⟨by rfl, ?_⟩) hHeld ?_
  rotate_left
  · (intro w hSw; (try dsimp only at hSw); go_simp; try (with_reducible rfl))
  try simp only [Act.put, List.setIfInBounds_toArray, List.set_cons_zero, List.set_cons_succ]
  refine wpAnyH_done (by kernel_rfl) ?_ _
  have Hrp := hide (RunP.init (g := g) Hs.out hr17)
  have hB1 := hb1.trans (hHeld.mono hb1.size)
  have Hrby := hide rby; have HB1 := hide hB1
  have Hx2 := hide ((Hx.out.below hHeld).more hHeld.size)
  have hin : 0 ≤ r17 ∧ r17 ≤ 2000000 := by obtain ⟨h1, h2, h3⟩ := hs; omega
  obtain ⟨b20, w20, e20, ew20, hr20, hb20⟩ := mk_row (cells := icell) V17 #[.int .i64 r17] 3 [r17] rfl
  have Hr20 := hide hr20
  have Hr3 := hide (R3.nil w20 w20.heap.size)
  have Hb20 := hide hb20
  clear hm16 hr17 hl17 hu17 hbc rby hr20 hb20 hHeld hB1 hb1 hs
  go_wp2_with (at_builtin; go_loud (rw [ew20.out, e20.out]); go_loud (refine wpList_app (v := .slice none 0 0) (xs := []) (ys := [r17]) (n := 1) el_int rfl (.tmp 18) (.tmp 20) rfl rfl Hr3.out.o1 rfl rfl Hr20.out (by simp) (Nat.le_refl _) ?_); go_loud (intro v21 w2 hown hg hat))
  have hr3 := Hr3.out.app hown hg hat
  rw [List.nil_append] at hr3
  have hb202 : Below w20.heap.size w20 w2 := own_grown Hr3.out.o1 (Below.refl _ _) hg (Nat.le_refl _)
  have HB2 := hide (HB1.out.trans (Hb20.out.mono HB1.out.size)); have Hrby2 := hide (Hrby.out.bel Hb20.out); have Hx3 := hide (Hx2.out.bel Hb20.out)
  have Hr32 := hide hr3
  clear hown hg hat hr3 Hr3 Hr20
  go_loopw [6, 7, 8, 9, 24] (fun p1 p2 p3 p9 i wr => ∃ (k : Nat) (cur : Int) (fs ls gs : List Int) (v1 v2 v3 : Value), v1 = p1 ∧ v2 = p2 ∧ v3 = p3 ∧ p9 = .int .i64 cur ∧ i = .int .i64 k ∧ k ≤ n ∧ Hid (cur = fs.getD k 0) ∧ (0 ≤ cur ∧ cur ≤ 2000000) ∧ Hid (RunP g s fs ls gs k) ∧ Hid (R3 wr w20.heap.size v1 v2 v3 fs ls gs) ∧ Below w20.heap.size w20 wr) (fun _ _ _ _ i _ => n - (intOf i).toNat)
  case atStart => exact ⟨0, r17, _, _, _, _, _, _, rfl, rfl, rfl, rfl, rfl, by omega, hide rfl, hin, Hrp, Hr32, hb202⟩
  case round =>
    obtain ⟨k, cur, fs, ls, gs, v1, v2, v3, rfl, rfl, rfl, rfl, rfl, hk, Hcur, hcb, HRP, HR3, hb⟩ := hrel
    by_cases hlt : k < n
    · obtain ⟨ba, offa, a0, a1, a2, a3, a4, a5, rfl, hba, hxk, d0, d1, d2, d3, d4, d5⟩ := (Hx3.out.below hb).rc (i := k) (by have := Hn.out; omega)
      obtain ⟨⟨g1, g2, g3⟩, ⟨g4, g5, g6⟩, ⟨g7, g8, g9⟩⟩ := Hfine.out _ (List.mem_of_getElem? hxk)
      simp only at g1 g2 g3 g4 g5 g6 g7 g8 g9
      obtain ⟨b11, w11, e11, ew11, hx11, hb11, hz11⟩ := mk_bx wr #[.int .i64 a0, .int .i64 a1, .int .i64 a2, .int .i64 a3, .int .i64 a4, .int .i64 a5] 96
      have Hxk := hide hxk; have Hb := hide hb
      have rby := (Hrby2.out.bel hb).bel hb11
      have r3 := HR3.out.bel hb11
      have k0 : IntKind.i64.wrap (3 * (k : Int)) = 3 * (k : Int) := wrapI (by omega)
      have k01 : IntKind.i64.wrap (3 * (k : Int) + 1) = 3 * (k : Int) + 1 := wrapI (by omega)
      have k02 : IntKind.i64.wrap (3 * (k : Int) + 2) = 3 * (k : Int) + 2 := wrapI (by omega)
      have k03 : IntKind.i64.wrap (3 * (k : Int) + 3) = 3 * (k : Int) + 3 := wrapI (by omega)
      clear hxk hb hz11
      go_wp2_with fail
      rw [ew11.out, e11.out]
      refine wp_region_held_drew (S := (fun W => Below w11.heap.size w11 W)) (by kernel_rfl) (by (try dsimp only); exact (Below.refl _ _).drew) (fun hHeld => ?_)
      generalize World.drew w11 = Wd6 at hHeld ⊢
      have rby := rby.bel hHeld
      have r3 := r3.bel hHeld
      have hbc := Below.refl Wd6.heap.size Wd6
      refine wpAnyH_take (i := 0) (oi := ⟨_, _, _, _, _, _⟩) (v := ?_) rfl (by kernel_rfl) (by kernel_rfl) (by kernel_rfl) (fun _ _ _ h => h) (Or.inl ⟨by rfl, ?_⟩) hHeld ?_
      rotate_left
      · (intro w hSw; (try dsimp only at hSw); go_simp; try (with_reducible rfl))
      try simp only [Act.put, List.setIfInBounds_toArray, List.set_cons_zero, List.set_cons_succ]
      refine wpAnyH_take (i := 1) (oi := ⟨_, _, _, _, _, _⟩) (v := ?_) rfl (by kernel_rfl) (by kernel_rfl) (by kernel_rfl) (fun _ _ _ h => h) (Or.inl ⟨by rfl, ?_⟩) hHeld ?_
      rotate_left
      · (intro w hSw; (try dsimp only at hSw); obtain ⟨z0, z1, z2, z3, z4, z5⟩ := (hx11.bel hSw).at_.c6; go_simp; try (with_reducible rfl))
      try simp only [Act.put, List.setIfInBounds_toArray, List.set_cons_zero, List.set_cons_succ]
      refine wpAnyH_take (i := 2) (oi := ⟨_, _, _, _, _, _⟩) (v := ?_) rfl (by kernel_rfl) (by kernel_rfl) (by kernel_rfl) (fun _ _ _ h => h) (Or.inl ⟨by rfl, ?_⟩) hHeld ?_
      rotate_left
      · (intro w hSw; (try dsimp only at hSw); go_simp; try (with_reducible rfl))
      try simp only [Act.put, List.setIfInBounds_toArray, List.set_cons_zero, List.set_cons_succ]
      refine wpAnyH_take (i := 3) (oi := ⟨_, _, _, _, _, _⟩) (v := ?_) rfl (by kernel_rfl) (by kernel_rfl) (by kernel_rfl) (fun _ _ _ h => h) (Or.inl ⟨by rfl, ?_⟩) hHeld ?_
      rotate_left
      · (intro w hSw; (try dsimp only at hSw); go_simp; try (with_reducible rfl))
      try simp only [Act.put, List.setIfInBounds_toArray, List.set_cons_zero, List.set_cons_succ]
      refine wpAnyH_take (i := 4) (oi := ⟨_, _, _, _, _, _⟩) (v := ?_) rfl (by kernel_rfl) (by kernel_rfl) (by kernel_rfl) (fun _ _ _ h => h) (Or.inl ⟨by rfl, ?_⟩) hHeld ?_
      rotate_left
      · (intro w hSw; (try dsimp only at hSw); go_simp; try (with_reducible rfl))
      try simp only [Act.put, List.setIfInBounds_toArray, List.set_cons_zero, List.set_cons_succ]
      refine wpAnyH_take (i := 5) (oi := ⟨_, _, _, _, _, _⟩) (v := ?_) rfl (by kernel_rfl) (by kernel_rfl) (by kernel_rfl) (fun _ _ _ h => h) (Or.inl ⟨by rfl, ?_⟩) hHeld ?_
      rotate_left
      · (intro w hSw; (try dsimp only at hSw); go_simp; try (with_reducible rfl))
      try simp only [Act.put, List.setIfInBounds_toArray, List.set_cons_zero, List.set_cons_succ]
      refine wpAnyH_ready (rs := [6]) (by kernel_rfl) (by simp) ?_
      refine AllReadyH.cons (o := ⟨_, _, _, _, _, _⟩) rfl (fun K hK => ?_) AllReadyH.nil
      go_simp
      refine (gat_any _ _ _ bys _ _ Hnb.out H32.out rby Hnb2.out (by omega) (by omega)).mono ?_
      rintro e V35 ⟨m35, rfl, hm35, hb⟩
      go_wp2_with fail
      have hHeldN := hHeld.trans (hb.mono hHeld.size)
      have rby := rby.bel hb
      have r3 := r3.bel hb
      have hbc := hbc.trans (hb.mono hbc.size)
      refine hK.out _ _ ?_ (fun hHeld2 => ?_)
      · exact hHeldN
      clear hK K hHeld hHeldN hb; have hHeld := hHeld2; clear hHeld2
      try simp only [Act.put, List.setIfInBounds_toArray, List.set_cons_zero, List.set_cons_succ]
      refine wpAnyH_ready (rs := [7]) (by kernel_rfl) (by simp) ?_
      refine AllReadyH.cons (o := ⟨_, _, _, _, _, _⟩) rfl (fun K hK => ?_) AllReadyH.nil
      go_simp
      refine (gpick_any _ _ _ _ g7 g8 (by omega) hm35).mono ?_
      rintro e V36 ⟨r36, rfl, hr36, hb⟩
      have hq36 := hr36
      unfold inS at hq36
      dsimp only at hq36
      obtain ⟨hl36, hu36⟩ := hq36
      go_wp2_with fail
      have hHeldN := hHeld.trans (hb.mono hHeld.size)
      have rby := rby.bel hb
      have r3 := r3.bel hb
      have hbc := hbc.trans (hb.mono hbc.size)
      refine hK.out _ _ ?_ (fun hHeld2 => ?_)
      · exact hHeldN
      clear hK K hHeld hHeldN hb; have hHeld := hHeld2; clear hHeld2
      try simp only [Act.put, List.setIfInBounds_toArray, List.set_cons_zero, List.set_cons_succ]
      refine wpAnyH_take (i := 8) (oi := ⟨_, _, _, _, _, _⟩) (v := ?_) rfl (by kernel_rfl) (by kernel_rfl) (by kernel_rfl) (fun _ _ _ h => h) (Or.inl ⟨by rfl, ?_⟩) hHeld ?_
      rotate_left
      · (intro w hSw; (try dsimp only at hSw); go_simp; try (with_reducible rfl))
      try simp only [Act.put, List.setIfInBounds_toArray, List.set_cons_zero, List.set_cons_succ]
      refine wpAnyH_done (by kernel_rfl) ?_ _
      have hx36 := hx11.bel hHeld
      have h1136 := hHeld
      clear hHeld hbc hm35
      obtain ⟨w36, rfl⟩ : ∃ w36, w36 = V36 := ⟨V36, rfl⟩
      go_wp2_with fail
      refine wp_region_held_drew (S := (fun W => Below w36.heap.size w36 W)) (by kernel_rfl) (by (try dsimp only); exact (Below.refl _ _).drew) (fun hHeld => ?_)
      generalize World.drew w36 = Wd7 at hHeld ⊢
      have rby := rby.bel hHeld
      have r3 := r3.bel hHeld
      have hbc := Below.refl Wd7.heap.size Wd7
      refine wpAnyH_take (i := 0) (oi := ⟨_, _, _, _, _, _⟩) (v := ?_) rfl (by kernel_rfl) (by kernel_rfl) (by kernel_rfl) (fun _ _ _ h => h) (Or.inl ⟨by rfl, ?_⟩) hHeld ?_
      rotate_left
      · (intro w hSw; (try dsimp only at hSw); go_simp; try (with_reducible rfl))
      try simp only [Act.put, List.setIfInBounds_toArray, List.set_cons_zero, List.set_cons_succ]
      refine wpAnyH_take (i := 1) (oi := ⟨_, _, _, _, _, _⟩) (v := ?_) rfl (by kernel_rfl) (by kernel_rfl) (by kernel_rfl) (fun _ _ _ h => h) (Or.inl ⟨by rfl, ?_⟩) hHeld ?_
      rotate_left
      · (intro w hSw; (try dsimp only at hSw); go_simp; try (with_reducible rfl))
      try simp only [Act.put, List.setIfInBounds_toArray, List.set_cons_zero, List.set_cons_succ]
      refine wpAnyH_take (i := 2) (oi := ⟨_, _, _, _, _, _⟩) (v := ?_) rfl (by kernel_rfl) (by kernel_rfl) (by kernel_rfl) (fun _ _ _ h => h) (Or.inl ⟨by rfl, ?_⟩) hHeld ?_
      rotate_left
      · (intro w hSw; (try dsimp only at hSw); obtain ⟨z0, z1, z2, z3, z4, z5⟩ := (hx36.bel hSw).at_.c6; go_simp; try (with_reducible rfl))
      try simp only [Act.put, List.setIfInBounds_toArray, List.set_cons_zero, List.set_cons_succ]
      refine wpAnyH_take (i := 3) (oi := ⟨_, _, _, _, _, _⟩) (v := ?_) rfl (by kernel_rfl) (by kernel_rfl) (by kernel_rfl) (fun _ _ _ h => h) (Or.inl ⟨by rfl, ?_⟩) hHeld ?_
      rotate_left
      · (intro w hSw; (try dsimp only at hSw); go_simp; try (with_reducible rfl))
      try simp only [Act.put, List.setIfInBounds_toArray, List.set_cons_zero, List.set_cons_succ]
      refine wpAnyH_take (i := 4) (oi := ⟨_, _, _, _, _, _⟩) (v := ?_) rfl (by kernel_rfl) (by kernel_rfl) (by kernel_rfl) (fun _ _ _ h => h) (Or.inl ⟨by rfl, ?_⟩) hHeld ?_
      rotate_left
      · (intro w hSw; (try dsimp only at hSw); go_simp; try (with_reducible rfl))
      try simp only [Act.put, List.setIfInBounds_toArray, List.set_cons_zero, List.set_cons_succ]
      refine wpAnyH_take (i := 5) (oi := ⟨_, _, _, _, _, _⟩) (v := ?_) rfl (by kernel_rfl) (by kernel_rfl) (by kernel_rfl) (fun _ _ _ h => h) (Or.inl ⟨by rfl, ?_⟩) hHeld ?_
      rotate_left
      · (intro w hSw; (try dsimp only at hSw); go_simp; try (with_reducible rfl))
      try simp only [Act.put, List.setIfInBounds_toArray, List.set_cons_zero, List.set_cons_succ]
      refine wpAnyH_take (i := 6) (oi := ⟨_, _, _, _, _, _⟩) (v := ?_) rfl (by kernel_rfl) (by kernel_rfl) (by kernel_rfl) (fun _ _ _ h => h) (Or.inl ⟨by rfl, ?_⟩) hHeld ?_
      rotate_left
      · (intro w hSw; (try dsimp only at hSw); go_simp; try (with_reducible rfl))
      try simp only [Act.put, List.setIfInBounds_toArray, List.set_cons_zero, List.set_cons_succ]
      refine wpAnyH_take (i := 10) (oi := ⟨_, _, _, _, _, _⟩) (v := ?_) rfl (by kernel_rfl) (by kernel_rfl) (by kernel_rfl) (fun _ _ _ h => h) (Or.inl ⟨by rfl, ?_⟩) hHeld ?_
      rotate_left
      · (intro w hSw; (try dsimp only at hSw); go_simp; try (with_reducible rfl))
      try simp only [Act.put, List.setIfInBounds_toArray, List.set_cons_zero, List.set_cons_succ]
      refine wpAnyH_take (i := 11) (oi := ⟨_, _, _, _, _, _⟩) (v := ?_) rfl (by kernel_rfl) (by kernel_rfl) (by kernel_rfl) (fun _ _ _ h => h) (Or.inl ⟨by rfl, ?_⟩) hHeld ?_
      rotate_left
      · (intro w hSw; (try dsimp only at hSw); obtain ⟨z0, z1, z2, z3, z4, z5⟩ := (hx36.bel hSw).at_.c6; go_simp; try (with_reducible rfl))
      try simp only [Act.put, List.setIfInBounds_toArray, List.set_cons_zero, List.set_cons_succ]
      refine wpAnyH_take (i := 12) (oi := ⟨_, _, _, _, _, _⟩) (v := ?_) rfl (by kernel_rfl) (by kernel_rfl) (by kernel_rfl) (fun _ _ _ h => h) (Or.inl ⟨by rfl, ?_⟩) hHeld ?_
      rotate_left
      · (intro w hSw; (try dsimp only at hSw); go_simp; try (with_reducible rfl))
      try simp only [Act.put, List.setIfInBounds_toArray, List.set_cons_zero, List.set_cons_succ]
      refine wpAnyH_take (i := 13) (oi := ⟨_, _, _, _, _, _⟩) (v := ?_) rfl (by kernel_rfl) (by kernel_rfl) (by kernel_rfl) (fun _ _ _ h => h) (Or.inl ⟨by rfl, ?_⟩) hHeld ?_
      rotate_left
      · (intro w hSw; (try dsimp only at hSw); go_simp; try (with_reducible rfl))
      try simp only [Act.put, List.setIfInBounds_toArray, List.set_cons_zero, List.set_cons_succ]
      refine wpAnyH_take (i := 14) (oi := ⟨_, _, _, _, _, _⟩) (v := ?_) rfl (by kernel_rfl) (by kernel_rfl) (by kernel_rfl) (fun _ _ _ h => h) (Or.inl ⟨by rfl, ?_⟩) hHeld ?_
      rotate_left
      · (intro w hSw; (try dsimp only at hSw); go_simp; try (with_reducible rfl))
      try simp only [Act.put, List.setIfInBounds_toArray, List.set_cons_zero, List.set_cons_succ]
      refine wpAnyH_take (i := 15) (oi := ⟨_, _, _, _, _, _⟩) (v := ?_) rfl (by kernel_rfl) (by kernel_rfl) (by kernel_rfl) (fun _ _ _ h => h) (Or.inl ⟨by rfl, ?_⟩) hHeld ?_
      rotate_left
      · (intro w hSw; (try dsimp only at hSw); go_simp; try (with_reducible rfl))
      try simp only [Act.put, List.setIfInBounds_toArray, List.set_cons_zero, List.set_cons_succ]
      refine wpAnyH_take (i := 20) (oi := ⟨_, _, _, _, _, _⟩) (v := ?_) rfl (by kernel_rfl) (by kernel_rfl) (by kernel_rfl) (fun _ _ _ h => h) (Or.inl ⟨by rfl, ?_⟩) hHeld ?_
      rotate_left
      · (intro w hSw; (try dsimp only at hSw); go_simp; try (with_reducible rfl))
      try simp only [Act.put, List.setIfInBounds_toArray, List.set_cons_zero, List.set_cons_succ]
      refine wpAnyH_ready (rs := [7]) (by kernel_rfl) (by simp) ?_
      refine AllReadyH.cons (o := ⟨_, _, _, _, _, _⟩) rfl (fun K hK => ?_) AllReadyH.nil
      go_simp
      refine (gat_any _ _ _ bys _ _ Hnb.out H32.out rby Hnb2.out (by omega) (by omega)).mono ?_
      rintro e V44 ⟨m44, rfl, hm44, hb⟩
      go_wp2_with fail
      have hHeldN := hHeld.trans (hb.mono hHeld.size)
      have rby := rby.bel hb
      have r3 := r3.bel hb
      have hbc := hbc.trans (hb.mono hbc.size)
      refine hK.out _ _ ?_ (fun hHeld2 => ?_)
      · exact hHeldN
      clear hK K hHeld hHeldN hb; have hHeld := hHeld2; clear hHeld2
      try simp only [Act.put, List.setIfInBounds_toArray, List.set_cons_zero, List.set_cons_succ]
      refine wpAnyH_ready (rs := [8]) (by kernel_rfl) (by simp) ?_
      refine AllReadyH.cons (o := ⟨_, _, _, _, _, _⟩) rfl (fun K hK => ?_) AllReadyH.nil
      go_simp
      refine (gpick_any _ _ _ _ g1 g2 (by omega) hm44).mono ?_
      rintro e V45 ⟨r45, rfl, hr45, hb⟩
      have hq45 := hr45
      unfold inS at hq45
      dsimp only at hq45
      obtain ⟨hl45, hu45⟩ := hq45
      go_wp2_with fail
      have hHeldN := hHeld.trans (hb.mono hHeld.size)
      have rby := rby.bel hb
      have r3 := r3.bel hb
      have hbc := hbc.trans (hb.mono hbc.size)
      refine hK.out _ _ ?_ (fun hHeld2 => ?_)
      · exact hHeldN
      clear hK K hHeld hHeldN hb; have hHeld := hHeld2; clear hHeld2
      try simp only [Act.put, List.setIfInBounds_toArray, List.set_cons_zero, List.set_cons_succ]
      refine wpAnyH_take (i := 9) (oi := ⟨_, _, _, _, _, _⟩) (v := ?_) rfl (by kernel_rfl) (by kernel_rfl) (by kernel_rfl) (fun _ _ _ h => h) (Or.inl ⟨by rfl, ?_⟩) hHeld ?_
      rotate_left
      · (intro w hSw; (try dsimp only at hSw); go_simp; try (with_reducible rfl))
      try simp only [Act.put, List.setIfInBounds_toArray, List.set_cons_zero, List.set_cons_succ]
      refine wpAnyH_ready (rs := [16]) (by kernel_rfl) (by simp) ?_
      refine AllReadyH.cons (o := ⟨_, _, _, _, _, _⟩) rfl (fun K hK => ?_) AllReadyH.nil
      go_simp
      refine (gat_any _ _ _ bys _ _ Hnb.out H32.out rby Hnb2.out (by omega) (by omega)).mono ?_
      rintro e V53 ⟨m53, rfl, hm53, hb⟩
      go_wp2_with fail
      have hHeldN := hHeld.trans (hb.mono hHeld.size)
      have rby := rby.bel hb
      have r3 := r3.bel hb
      have hbc := hbc.trans (hb.mono hbc.size)
      refine hK.out _ _ ?_ (fun hHeld2 => ?_)
      · exact hHeldN
      clear hK K hHeld hHeldN hb; have hHeld := hHeld2; clear hHeld2
      try simp only [Act.put, List.setIfInBounds_toArray, List.set_cons_zero, List.set_cons_succ]
      refine wpAnyH_ready (rs := [17]) (by kernel_rfl) (by simp) ?_
      refine AllReadyH.cons (o := ⟨_, _, _, _, _, _⟩) rfl (fun K hK => ?_) AllReadyH.nil
      go_simp
      refine (gpick_any _ _ _ _ g4 g5 (by omega) hm53).mono ?_
      rintro e V54 ⟨r54, rfl, hr54, hb⟩
      have hq54 := hr54
      unfold inS at hq54
      dsimp only at hq54
      obtain ⟨hl54, hu54⟩ := hq54
      have k0 : IntKind.i64.wrap (3 * (k : Int)) = 3 * (k : Int) := wrapI (by omega)
      have k1 : IntKind.i64.wrap (min cur r45 - r54) = min cur r45 - r54 := wrapI (by omega)
      have k2 : IntKind.i64.wrap (max 0 (min cur r45 - r54) + r36) = max 0 (min cur r45 - r54) + r36 := wrapI (by omega)
      go_wp2_with fail
      have hHeldN := hHeld.trans (hb.mono hHeld.size)
      have rby := rby.bel hb
      have r3 := r3.bel hb
      have hbc := hbc.trans (hb.mono hbc.size)
      refine hK.out _ _ ?_ (fun hHeld2 => ?_)
      · exact hHeldN
      clear hK K hHeld hHeldN hb; have hHeld := hHeld2; clear hHeld2
      try simp only [Act.put, List.setIfInBounds_toArray, List.set_cons_zero, List.set_cons_succ]
      refine wpAnyH_take (i := 18) (oi := ⟨_, _, _, _, _, _⟩) (v := ?_) rfl (by kernel_rfl) (by kernel_rfl) (by kernel_rfl) (fun _ _ _ h => h) (Or.inl ⟨by rfl, ?_⟩) hHeld ?_
      rotate_left
      · (intro w hSw; (try dsimp only at hSw); go_simp; try (with_reducible rfl))
      try simp only [Act.put, List.setIfInBounds_toArray, List.set_cons_zero, List.set_cons_succ]
      refine wpAnyH_take (i := 19) (oi := ⟨_, _, _, _, _, _⟩) (v := ?_) rfl (by kernel_rfl) (by kernel_rfl) (by kernel_rfl) (fun _ _ _ h => h) (Or.inl ⟨by rfl, ?_⟩) hHeld ?_
      rotate_left
      · (intro w hSw; (try dsimp only at hSw); go_simp; try (with_reducible rfl))
      try simp only [Act.put, List.setIfInBounds_toArray, List.set_cons_zero, List.set_cons_succ]
      refine wpAnyH_take (i := 21) (oi := ⟨_, _, _, _, _, _⟩) (v := ?_) rfl (by kernel_rfl) (by kernel_rfl) (by kernel_rfl) (fun _ _ _ h => h) (Or.inl ⟨by rfl, ?_⟩) hHeld ?_
      rotate_left
      · (intro w hSw; (try dsimp only at hSw); go_simp; try (with_reducible rfl))
      try simp only [Act.put, List.setIfInBounds_toArray, List.set_cons_zero, List.set_cons_succ]
      refine wpAnyH_take (i := 22) (oi := ⟨_, _, _, _, _, _⟩) (v := ?_) rfl (by kernel_rfl) (by kernel_rfl) (by kernel_rfl) (fun _ _ _ h => h) (Or.inl ⟨by rfl, ?_⟩) hHeld ?_
      rotate_left
      · (intro w hSw; (try dsimp only at hSw); go_simp; try (with_reducible rfl))
      try simp only [Act.put, List.setIfInBounds_toArray, List.set_cons_zero, List.set_cons_succ]
      refine wpAnyH_done (by kernel_rfl) ?_ _
      obtain ⟨nx, hnx⟩ : ∃ nx, nx = max 0 (min cur r45 - r54) + r36 := ⟨_, rfl⟩
      rw [← hnx]
      have hnxb : 0 ≤ nx ∧ nx ≤ 2000000 := by omega
      have hnf : nx = nextF cur r45 r54 r36 := hnx
      have Hrn := HRP.out.next Hxk.out (Hfine.out _ (List.mem_of_getElem? Hxk.out)) Hcur.out hr45 hr54 hr36
      rw [← hnf] at Hrn
      have HRN := hide Hrn
      have hBw := Hb.out.trans ((hb11.trans ((h1136.trans (hHeld.mono h1136.size)).mono hb11.size)).mono Hb.out.size)
      have HBw := hide hBw
      have k3 : IntKind.i64.wrap (cur + r36) = cur + r36 := wrapI (by omega)
      have k4 : IntKind.i64.wrap (cur + r36 - nx) = cur + r36 - nx := wrapI (by omega)
      have hl1 : fs.length ≤ 100 := by rw [HRP.out.lf]; omega
      have hl2 : ls.length ≤ 100 := by rw [HRP.out.ll]; omega
      have hl3 : gs.length ≤ 100 := by rw [HRP.out.lg]; omega
      have Hr3 := hide r3
      have hsV : w20.heap.size ≤ V54.heap.size := hBw.size
      obtain ⟨w54, rfl⟩ : ∃ w54, w54 = V54 := ⟨V54, rfl⟩
      have hcur2 := Hcur
      clear hHeld hbc hx36 h1136 hb11 hx11 rby r3 hBw hnx hnf Hrn hm44 hm53 hr36 hr45 hr54 hl36 hu36 hl45 hu45 hl54 hu54 g1 g2 g3 g4 g5 g6 g7 g8 g9 d0 d1 d2 d3 d4 d5
      obtain ⟨b65, w65, e65, ew65, hr65, hb65⟩ := mk_row (cells := icell) w54 #[.int .i64 (cur + r36 - nx)] 3 [cur + r36 - nx] rfl
      have H365 := hide (Hr3.out.rot.bel hb65); have Hr65 := hide hr65
      have hs65 : w20.heap.size ≤ w65.heap.size := by have := hb65.size; omega
      clear hr65
      have HB65 := hide (HBw.out.trans (hb65.mono HBw.out.size))
      go_wp2_with (first | (at_builtin; go_loud (rw [ew65.out, e65.out]); go_loud (refine wpList_app (v := v2) (xs := ls) (ys := [cur + r36 - nx]) (n := 1) el_int rfl (.tmp 59) (.tmp 65) rfl rfl H365.out.o1 rfl rfl Hr65.out (by simp; omega) hs65 ?_); go_loud (intro v66 w66 hown66 hg66 hat66); go_loud (have h366 := H365.out.app hown66 hg66 hat66); go_loud (have HB66 := hide (own_grown H365.out.o1 HB65.out hg66 (Nat.le_refl _))); go_loud (obtain ⟨b69, w69, e69, ew69, hr69, hb69⟩ := mk_row (cells := icell) w66 #[.int .i64 r36] 3 [r36] rfl); go_loud (have H369 := hide (h366.rot.bel hb69)); go_loud (have Hr69 := hide hr69); go_loud (have HB69 := hide (HB66.out.trans (hb69.mono HB66.out.size))); go_loud (clear hown66 hg66 hat66 h366 hr69)) | (at_builtin; go_loud (rw [ew69.out, e69.out]); go_loud (refine wpList_app (v := v3) (xs := gs) (ys := [r36]) (n := 1) el_int rfl (.tmp 67) (.tmp 69) rfl rfl H369.out.o1 rfl rfl Hr69.out (by simp; omega) HB69.out.size ?_); go_loud (intro v70 w70 hown70 hg70 hat70); go_loud (have h370 := H369.out.app hown70 hg70 hat70); go_loud (have HB70 := hide (own_grown H369.out.o1 HB69.out hg70 (Nat.le_refl _))); go_loud (obtain ⟨b74, w74, e74, ew74, hr74, hb74⟩ := mk_row (cells := icell) w70 #[.int .i64 nx] 3 [nx] rfl); go_loud (have H374 := hide (h370.rot.bel hb74)); go_loud (have Hr74 := hide hr74); go_loud (have HB74 := hide (HB70.out.trans (hb74.mono HB70.out.size))); go_loud (clear hown70 hg70 hat70 h370 hr74)) | (at_builtin; go_loud (rw [ew74.out, e74.out]); go_loud (refine wpList_app (v := v1) (xs := fs) (ys := [nx]) (n := 1) el_int rfl (.tmp 72) (.tmp 74) rfl rfl H374.out.o1 rfl rfl Hr74.out (by simp; omega) HB74.out.size ?_); go_loud (intro v75 w75 hown75 hg75 hat75)))
      have h375 := H374.out.app hown75 hg75 hat75
      have hB75 := own_grown H374.out.o1 HB74.out hg75 (Nat.le_refl _)
      exact ⟨⟨k + 1, nx, _, _, _, v75, v66, v70, rfl, rfl, rfl, rfl, by go_num, by omega, hide (getD_end HRP.out.lf.symm).symm, hnxb, HRN, hide h375, hB75⟩, by simp [intOf]; omega⟩
    · obtain rfl : n = k := by omega
      have hBr := HB2.out.trans (hb.mono HB2.out.size)
      obtain ⟨A1, c1, rfl, hr1⟩ := HR3.out.o1.rdn (n + 1) HRP.out.lf
      obtain ⟨A2, c2, rfl, hr2⟩ := HR3.out.o2.rdn n HRP.out.ll
      obtain ⟨A3, c3, rfl, hr3⟩ := HR3.out.o3.rdn n HRP.out.lg
      have Hr1 := hide hr1; have Hr2 := hide hr2; have Hr3 := hide hr3
      clear hr1 hr2 hr3 HR3
      go_wp2_with fail
      refine bodyPost_ret (v := .tuple #[.slice A1 (n + 1) c1, .slice A2 n c2, .slice A3 n c3]) (by simp [results, Try.results36, go_sem]; try rfl) rfl ?_
      exact ⟨A1, c1, A2, c2, A3, c3, fs, ls, gs, rfl, HRP.out, Hr1.out, Hr2.out, Hr3.out, hBr⟩
end Go.Proofs.Ytkmocikcohhdoaa
namespace Go.Proofs.Ytkmocikcohhdoaa
open Go.RowKit Go.Shelf
attribute [local go_sem] ite_min ite_max ite_max1
theorem wrapU {x : Int} (h : 0 ≤ x ∧ x ≤ 4294967295) : IntKind.u32.wrap x = x := by
  unfold IntKind.wrap
  simp [IntKind.bits, IntKind.signed]
  omega
def SeenP (n : Nat) (fs : List Int) (l : List Ga) : Prop := ∀ x ∈ l, (0 ≤ x.shaft ∧ x.shaft ≤ n) ∧ x.flow.fine 13000000 ∧ inS (fs.getD x.shaft.toNat 0) x.flow
def SeenPost (n : Nat) (fs : List Int) (sh : List Nat) (w : World) (e : Ending) (w' : World) : Prop :=
  ∃ Al cl l, e = .returned (.slice Al (l.length) cl) ∧ l.length ≤ 30 ∧ l.length ≤ sh.length ∧ SeenP n fs l ∧ Rd w' w'.heap.size Ga.cells Al l ∧ Below w.heap.size w w'
set_option maxHeartbeats 4000000 in
set_option maxRecDepth 100000 in
theorem seen_any (A S B : Option Addr) (fs : List Int) (sh bys : List Nat) (n c m d nb cb : Nat) (w : World) (hn : n + 1 = fs.length) (hn20 : n ≤ 20) (hx : Rd w w.heap.size icell A fs) (hbd : ∀ j, j ≤ n → 0 ≤ fs.getD j 0 ∧ fs.getD j 0 ≤ 2000000)
    (hm : m = sh.length) (hm2 : m ≤ 9223372036854775807) (hs : Rd w w.heap.size u8cell S sh) (h8 : ∀ x ∈ sh, x ≤ 255) (hnb : nb = bys.length) (hnb2 : nb ≤ 9223372036854775807) (hby : Rd w w.heap.size u32cell B bys) (h32 : ∀ x ∈ bys, x ≤ 4294967295) :
    Calls Try.prog 37 #[.slice A (n + 1) c, .slice S m d, .slice B nb cb] w (SeenPost n fs sh w) := by
  have Hn := hide hn; have Hm := hide hm; have Hnb := hide hnb; have Hnb2 := hide hnb2; have H32 := hide h32; have H8 := hide h8; have Hx := hide hx; have Hs := hide hs; have Hby := hide hby; have Hbd := hide hbd
  clear hn hm hnb hnb2 h32 h8 hx hs hby hbd
  go_enter Try.func37, Try.ntmps37
  go_wp2_with fail
  go_loopw [7, 14] (fun a i wr => ∃ (k : Nat) (l : List Ga) (va : Value), va = a ∧ i = .int .i64 k ∧ k ≤ m ∧ k ≤ 30 ∧ Hid (l.length = k) ∧ Hid (SeenP n fs l) ∧ Hid (Own wr w.heap.size 64 3 Ga.cells va l) ∧ Below w.heap.size w wr) (fun _ i _ => m - (intOf i).toNat)
  case atStart => exact ⟨0, [], _, rfl, rfl, by omega, by omega, hide rfl, hide (fun x hx => by cases hx), hide (Own.nil _ _ _ _ _), Below.refl _ _⟩
  case round =>
    obtain ⟨k, l, va, rfl, rfl, hk, hk30, Hl, HS, Hown, hb⟩ := hrel
    by_cases hlt : k < m
    · obtain ⟨b1, o1, x, rfl, hb1, hxk, c0⟩ := (Hs.out.below hb).u8 (i := k) (by rw [← Hm.out]; exact hlt)
      have hx8 := H8.out x (List.mem_of_getElem? hxk)
      by_cases hk2 : k = 30
      · subst hk2
        obtain ⟨Al, cl, rfl, hrl⟩ := Hown.out.rdn l.length rfl
        have Hrl := hide hrl
        clear hrl Hown hxk
        go_wp2_with fail
        go_ret
        exact ⟨Al, cl, l, rfl, by rw [Hl.out]; omega, by rw [Hl.out, ← Hm.out]; exact hk, HS.out, Hrl.out, hb⟩
      · have hj : x % (n + 1) ≤ n := by have := Nat.mod_lt x (show 0 < n + 1 by omega); omega
        obtain ⟨j, hje⟩ : ∃ j, j = x % (n + 1) := ⟨_, rfl⟩
        rw [← hje] at hj
        have t0 : IntKind.i64.wrap (x : Int) = x := wrapI (by omega)
        have t1 : Int.tmod (x : Int) ((n : Int) + 1) = (j : Int) := by rw [Int.tmod_eq_emod_of_nonneg (by omega), hje]; exact (Int.natCast_emod x (n + 1)).symm
        have t2 : (x : Int) % ((n : Int) + 1) = (j : Int) := by rw [hje]; exact (Int.natCast_emod x (n + 1)).symm
        have nz2 : ¬ (n : Int) + 1 = 0 := by omega
        obtain ⟨b2, o2, f, rfl, hb2, hfj, c1⟩ := (Hx.out.below hb).int (i := j) (by rw [← Hn.out]; omega)
        have hfb := Hbd.out j hj
        have hfd : fs.getD j 0 = f := by rw [List.getD_eq_getElem?_getD, hfj]; rfl
        rw [hfd] at hfb
        have Hfd := hide hfd
        have jn : (j : Int) < (n : Int) + 1 := by omega
        have rby := (Hby.out.below hb).more hb.size
        have k30 : ¬ (k : Int) = 30 := by omega
        have k5 : IntKind.i64.wrap ((k : Int) + 5) = (k : Int) + 5 := wrapI (by omega)
        have k6 : IntKind.i64.wrap ((k : Int) + 6) = (k : Int) + 6 := wrapI (by omega)
        have Hb := hide hb
        clear hje hfj hfd hxk hb
        go_wp2_with fail
        refine (gat_any B nb cb bys _ wr Hnb.out H32.out rby Hnb2.out (by omega) (by omega)).mono ?_
        rintro e wa ⟨m1, rfl, hm1, hba⟩
        obtain ⟨q1, hq1⟩ : ∃ q1, q1 = (m1 : Int) % 50 := ⟨_, rfl⟩
        have hq1b : 0 ≤ q1 ∧ q1 < 50 := by rw [hq1]; exact ⟨Int.emod_nonneg _ (by omega), Int.emod_lt_of_pos _ (by omega)⟩
        have s1 : Int.tmod (m1 : Int) 50 = q1 := by rw [Int.tmod_eq_emod_of_nonneg (by omega), hq1]
        have s2 : (m1 : Int) % 50 = q1 := hq1.symm
        have s3 : IntKind.u32.wrap q1 = q1 := wrapU (by omega)
        have s4 : IntKind.i64.wrap q1 = q1 := wrapI (by omega)
        have s5 : IntKind.i64.wrap (f - q1) = f - q1 := wrapI (by omega)
        have rby2 := rby.bel hba
        clear hq1
        go_wp2_with fail
        refine (gat_any B nb cb bys _ wa Hnb.out H32.out rby2 Hnb2.out (by omega) (by omega)).mono ?_
        rintro e wc ⟨m2, rfl, hm2', hbc⟩
        obtain ⟨q2, hq2⟩ : ∃ q2, q2 = (m2 : Int) % 50 := ⟨_, rfl⟩
        have hq2b : 0 ≤ q2 ∧ q2 < 50 := by rw [hq2]; exact ⟨Int.emod_nonneg _ (by omega), Int.emod_lt_of_pos _ (by omega)⟩
        have p1 : Int.tmod (m2 : Int) 50 = q2 := by rw [Int.tmod_eq_emod_of_nonneg (by omega), hq2]
        have p2 : (m2 : Int) % 50 = q2 := hq2.symm
        have p3 : IntKind.u32.wrap q2 = q2 := wrapU (by omega)
        have p4 : IntKind.i64.wrap q2 = q2 := wrapI (by omega)
        have p5 : IntKind.i64.wrap (f + q2) = f + q2 := wrapI (by omega)
        clear hq2
        go_wp2_with fail
        obtain ⟨lo, hlo⟩ : ∃ lo, lo = max 0 (f - q1) := ⟨_, rfl⟩
        obtain ⟨hi, hhi⟩ : ∃ hi, hi = f + q2 := ⟨_, rfl⟩
        rw [← hlo, ← hhi]
        refine (gspan_any _ _ _).mono ?_
        rintro e wd ⟨rfl, hbd⟩
        have hfl : 0 ≤ lo ∧ lo ≤ f ∧ f ≤ hi ∧ hi ≤ 13000000 := by omega
        have hb0d := hba.trans ((hbc.trans (hbd.mono hbc.size)).mono hba.size)
        obtain ⟨b52, w52, e52, ew52, hr52, hb52⟩ := mk_row (cells := Ga.cells) wd #[.int .i64 j, .int .i64 lo, .int .i64 hi] 64 [⟨j, ⟨lo, hi⟩⟩] rfl
        have hb052 := hb0d.trans (hb52.mono hb0d.size)
        have Ho52 := hide (Hown.out.bel hb052); have Hr52 := hide hr52; have HB52 := hide (Hb.out.trans (hb052.mono Hb.out.size))
        have hlen : l.length + 1 ≤ 1000000 := by rw [Hl.out]; omega
        have Hfl := hide hfl
        clear hr52 hb52 hb052 hb0d hba hbc hbd rby rby2 hlo hhi hfl
        go_wp2_with (at_builtin; go_loud (rw [ew52.out, e52.out]); go_loud (refine wpList_app (v := va) (xs := l) (ys := [⟨j, ⟨lo, hi⟩⟩]) (n := 1) el_ga rfl (.tmp 30) (.tmp 52) rfl rfl Ho52.out rfl rfl Hr52.out hlen HB52.out.size ?_); go_loud (intro vv wv hown hg hat))
        refine ⟨⟨k + 1, _, vv, rfl, by go_num, by omega, by omega, hide (by rw [List.length_append, Hl.out]; rfl), hide (fun x hx => ?_), hide hown, own_grown Ho52.out HB52.out hg (Nat.le_refl _)⟩, by simp [intOf]; omega⟩
        rcases List.mem_append.1 hx with h | h
        · exact HS.out x h
        · obtain rfl : x = ⟨j, ⟨lo, hi⟩⟩ := by simpa using h
          have h1 := Hfl.out
          refine ⟨⟨by show (0 : Int) ≤ (j : Int); omega, by show (j : Int) ≤ (n : Int); omega⟩, ⟨h1.1, by show lo ≤ hi; omega, h1.2.2.2⟩, ?_⟩
          show inS (fs.getD ((j : Int)).toNat 0) ⟨lo, hi⟩
          rw [Int.toNat_natCast, Hfd.out]
          exact ⟨h1.2.1, h1.2.2.1⟩
    · obtain rfl : m = k := by omega
      obtain ⟨Al, cl, rfl, hrl⟩ := Hown.out.rdn l.length rfl
      have Hrl := hide hrl
      clear hrl Hown
      go_wp2_with fail
      go_ret
      exact ⟨Al, cl, l, rfl, by rw [Hl.out]; omega, by rw [Hl.out, ← Hm.out]; exact hk, HS.out, Hrl.out, hb⟩
end Go.Proofs.Ytkmocikcohhdoaa
namespace Go.Proofs.Ytkmocikcohhdoaa
open Go.RowKit Go.Shelf
set_option maxHeartbeats 4000000 in
set_option maxRecDepth 100000 in
theorem gready_any (A : Option Addr) (g : List Rc) (s : Sp) (n c : Nat) (w : World) (hn : n = g.length) (hm : n ≤ 9223372036854775807) (hx : Rd w w.heap.size Rc.cells A g) :
    Calls Try.prog 35 #[.slice A n c, .agg #[.int .i64 s.lo, .int .i64 s.hi]] w fun e w' => e = .returned (.bool (gOk g && Sp.ok 0 1000000 s)) ∧ Below w.heap.size w w' := by
  obtain ⟨b3, w1, e3, ew1, hx3, hb1, hz1⟩ := mk_bx w #[.int .i64 s.lo, .int .i64 s.hi] 24
  have Hn := hide hn; have Hx := hide ((hx.below hb1).more hb1.size)
  clear hn hx
  by_cases h20 : n ≤ 20
  · have HC := hide (rcheck_any A g n c w1 Hn.out hm Hx.out)
    cases hok : gOk g
    · have h1 : gCheck g = 20 := by unfold gCheck; rw [hok]; rfl
      rw [h1] at HC
      clear h1 hok
      go_enter Try.func35, Try.ntmps35
      go_wp2_with fail
      rw [ew1.out, e3.out]
      refine HC.out.mono ?_
      rintro e w2 ⟨rfl, hb2⟩
      go_wp2_with fail
      go_ret
      exact ⟨by simp, hb1.trans (hb2.mono hb1.size)⟩
    · have h1 : gCheck g = 0 := by unfold gCheck; rw [hok]; rfl
      rw [h1] at HC
      clear h1 hok
      go_enter Try.func35, Try.ntmps35
      go_wp2_with fail
      rw [ew1.out, e3.out]
      refine HC.out.mono ?_
      rintro e w2 ⟨rfl, hb2⟩
      obtain ⟨q0, q1, _, _⟩ := (hx3.bel hb2).w2
      have hB2 := hb1.trans (hb2.mono hb1.size)
      go_wp2_with fail
      refine (spanned_any _ _ _ _ _).mono ?_
      rintro e w3 ⟨rfl, hb3⟩
      have hB3 := hB2.trans (hb3.mono hB2.size)
      cases hs : Sp.ok 0 1000000 s
      · have Hs := hide hs
        clear hs
        go_wp2_with fail
        go_ret
        exact ⟨by simp [Hs.out], hB3⟩
      · have Hs := hide hs
        clear hs
        go_wp2_with fail
        go_ret
        exact ⟨by simp [Hs.out], hB3⟩
  · have h1 : gOk g = false := by
      have := Hn.out
      unfold gOk inB
      have h2 : decide ((g.length : Int) ≤ 12) = false := decide_eq_false (by omega)
      rw [h2]; simp
    rw [h1]
    clear h1
    go_enter Try.func35, Try.ntmps35
    go_wp2_with fail
    rw [ew1.out]
    go_ret
    exact ⟨by simp, hb1⟩
section
variable {g : List Rc} {s : Sp} {l : List Ga} {n : Nat} {fs ls gs F : List Int}
theorem enter_ok (hg : gOk g = true) (hs : Sp.ok 0 1000000 s = true) (hl : l.length ≤ 30) (hv : ∀ x ∈ l, (0 ≤ x.shaft ∧ x.shaft ≤ g.length) ∧ x.flow.fine 13000000) : gEnter g s l = 0 := by
  have h1 : anyBad 1000000 [s] = false := by
    have := anyBad_one 1000000 s
    rw [hs] at this
    simpa using this
  have h2 : gasBad g l = false := by
    unfold gasBad
    have h3 : decide (30 < l.length) = false := decide_eq_false (by omega)
    rw [h3, Bool.false_or]
    rw [List.any_eq_false]
    intro x hx
    obtain ⟨⟨a1, a2⟩, b1, b2, b3⟩ := hv x hx
    have h4 : inB 0 (g.length : Int) x.shaft = true := by unfold inB; simp [a1, a2]
    have h5 : anyBad 13000000 [x.flow] = false := by simp [anyBad, Sp.bad]; omega
    simp [Ga.bad, h4, h5]
  unfold gEnter
  rw [hg, if_pos rfl, h1, if_neg (by decide), h2]
  rfl
theorem rd_in {ns : Nat → Int} (h0 : ∀ k, k ≤ n → 0 ≤ ns k ∧ ns k ≤ 13000000) (l : List Ga) (hl : ∀ x ∈ l, (0 ≤ x.shaft ∧ x.shaft ≤ n) ∧ inS (ns x.shaft.toNat) x.flow) : ∀ k, k ≤ n → inS (ns k) ((rdS n l).getD k allS) := by
  have key : ∀ (l : List Ga) (rd : List Sp), rd.length = n + 1 → (∀ k, k ≤ n → inS (ns k) (rd.getD k allS)) → (∀ x ∈ l, (0 ≤ x.shaft ∧ x.shaft ≤ n) ∧ inS (ns x.shaft.toNat) x.flow) →
      ∀ k, k ≤ n → inS (ns k) ((l.foldl (fun rd x => rd.set x.shaft.toNat (cutS (rd.getD x.shaft.toNat allS) x.flow)) rd).getD k allS) := by
    intro l
    induction l with
    | nil => intro rd _ h _ k hk; exact h k hk
    | cons x l ih =>
      intro rd hlen h hx k hk
      obtain ⟨⟨h1, h2⟩, h3⟩ := hx x (by simp)
      refine ih _ (by rw [List.length_set]; exact hlen) (fun k hk => ?_) (fun y hy => hx y (by simp [hy])) k hk
      have hold := h k hk
      by_cases e : k = x.shaft.toNat
      · rw [e, List.getD_eq_getElem?_getD, List.getElem?_set_self (by rw [hlen]; omega)]
        rw [e] at hold
        simp only [Option.getD_some, inS, cutS] at *
        omega
      · rw [List.getD_eq_getElem?_getD, List.getElem?_set_ne (Ne.symm e), ← List.getD_eq_getElem?_getD]
        exact hold
  refine key l (List.replicate (n + 1) allS) (by simp) (fun k hk => ?_) hl
  rw [List.getD_eq_getElem?_getD, List.getElem?_replicate, if_pos (by omega)]
  have := h0 k hk
  exact ⟨this.1, this.2⟩
theorem run_feas (hr : RunP g s fs ls gs n) (hn : n = g.length) (hl : SeenP n fs l) : Feas g (rdS n l) s (fun k => fs.getD k 0) := by
  refine ⟨hr.start, fun k hk => rd_in (ns := fun k => fs.getD k 0) (fun k hk => by have := hr.bd k hk; omega) l (fun x hx => ⟨(hl x hx).1, (hl x hx).2.2⟩) k (by omega), fun k r hk => ?_⟩
  obtain ⟨c, l', h1, h2, h3, h4, h5⟩ := hr.step k r (by have := (List.getElem?_eq_some_iff.1 hk).1; omega) hk
  show leastF r (fs.getD k 0) ≤ fs.getD (k + 1) 0 ∧ fs.getD (k + 1) 0 ≤ mostF r (fs.getD k 0)
  rw [h4]
  exact next_step h1 h2 h3
theorem ok_sp (hs : Sp.ok 0 1000000 s = true) : s.fine 1000000 := okS_fine hs
/-- What is told holds what flows in truth. -/
theorem run_told (hg : gOk g = true) (hs : Sp.ok 0 1000000 s = true) (hr : RunP g s fs ls gs n) (hn : n = g.length) (h30 : l.length ≤ 30) (hl : SeenP n fs l) :
    ∃ F, fitS g l s = some F ∧ flErr g s l = 0 ∧ flL g s l = F ∧ loL g s l = lostS g F ∧ F.length = n + 1 ∧ (∀ k, k ≤ n → inS (fs.getD k 0) (F.getD k allS)) := by
  obtain ⟨F, hF, hin⟩ := feas_in g (rdS n l) s _ (gOk_fine hg) (run_feas hr hn hl)
  have hfit : fitS g l s = some F := by unfold fitS; rw [← hn]; exact hF
  have he := enter_ok (l := l) hg hs h30 (fun x hx => ⟨by rw [← hn]; exact (hl x hx).1, (hl x hx).2.1⟩)
  have hfe : flErr g s l = 0 := by unfold flErr; rw [if_pos he, hfit]; rfl
  refine ⟨F, hfit, hfe, by unfold flL; rw [if_pos hfe, hfit]; rfl, by unfold loL; rw [if_pos hfe, hfit]; rfl, by rw [flowsF_len _ _ _ _ hF, hn], fun k hk => hin k (by omega)⟩
theorem run_lost {G : List Sp} {k : Nat} {r : Rc} {f : Sp} (hg : gOk g = true) (hr : RunP g s fs ls gs n) (hn : n = g.length) (hk : g[k]? = some r) (hf : G[k]? = some f) (hin : inS (fs.getD k 0) f) :
    ∃ d, (lostS g G)[k]? = some d ∧ inS (ls.getD k 0) d ∧ 0 ≤ ls.getD k 0 := by
  have hkn : k < n := by rw [hn]; exact (List.getElem?_eq_some_iff.1 hk).1
  obtain ⟨c, l', h1, h2, h3, h4, h5⟩ := hr.step k r hkn hk
  have hb := hr.bd k (by omega)
  have h6 := lost_in (f := f) hb.1 (gOk_fine hg r (List.mem_of_getElem? hk)) hin h1 h2 h3
  rw [← h4, ← h5] at h6
  refine ⟨_, ?_, h6.1, h6.2⟩
  have h7 := lostS_get hk hf
  have hlen : k < (lostS g G).length := by rw [lostS_len, ← hn]; exact hkn
  have h8 : ((lostS g G).take (k + 1))[k]? = (lostS g G)[k]? := by rw [List.getElem?_take, if_pos (by omega)]
  rw [← h8, h7, List.getElem?_append_right (by rw [List.length_take]; omega)]
  have h9 : k - ((lostS g G).take k).length = 0 := by rw [List.length_take]; omega
  rw [h9]; rfl
end
end Go.Proofs.Ytkmocikcohhdoaa
