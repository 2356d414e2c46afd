/- Gallery: Source's own functions, by contracts. -/
import Derived.Test.YtkmocikcohhdoaaF2
import Derived.Test.YtkmocikcohhdoaaG7
import Derived.Test.YtkmocikcohhdoaaBx
import Derived.Deep.QuietTactic
import Derived.BigQuiet
import Derived.Handy
set_option linter.unusedVariables false
set_option linter.unusedSimpArgs false
namespace Go.Proofs.Ytkmocikcohhdoaa
open Go.RowKit Go.Shelf
attribute [local go_sem] ite_min ite_max

theorem src4_any (n : Int) (w : World) : Calls Try.prog 66 #[.int .i64 n] w fun e w' => e = .returned (.int .i64 (clip n)) ∧ Below w.heap.size w w' := by
  go_enter Try.func66, Try.ntmps66
  go_wp2
  all_goals (go_ret; exact ⟨ret_int (by first | rfl | (simp only [clip]; omega)), Below.refl _ _⟩)

/-- A result of two cells that is read behind the body. -/
theorem src2_any (lo hi wt : Int) (w : World) (h : Yr.ok ⟨⟨lo, hi⟩, wt⟩ = true) : Calls Try.prog 62 #[.agg #[.int .i64 lo, .int .i64 hi, .int .i64 wt]] w fun e w' => e = .returned (.agg #[.int .i64 (lo * wt), .int .i64 (hi * wt)]) ∧ Below w.heap.size w w' := by
  obtain ⟨h1, h2, h3, h4, h5⟩ := Yr.ok_bd h
  simp only at h1 h2 h3 h4 h5
  have m1 := mul_bd (x := 10000) (y := 1000000) h1 (by omega) h4 h5
  have m2 := mul_bd (x := 10000) (y := 1000000) (show 0 ≤ hi by omega) h3 h4 h5
  have e1 : IntKind.i64.wrap (lo * wt) = lo * wt := wrapI (by omega)
  have e2 : IntKind.i64.wrap (hi * wt) = hi * wt := wrapI (by omega)
  clear h m1 m2 h1 h2 h3 h4 h5
  go_enter Try.func62, Try.ntmps62
  go_wp2
  exact bodyPost_ret (by simp [results, Try.results62, go_sem]; try rfl) rfl ⟨rfl, (below_new _ _).alloc (by simp) _⟩
theorem src3_any (lo hi : Int) (w : World) : Calls Try.prog 64 #[.agg #[.int .i64 lo, .int .i64 hi]] w fun e w' => e = .returned (.agg #[.int .i64 lo, .int .i64 hi]) ∧ Below w.heap.size w w' := by
  go_enter Try.func64, Try.ntmps64
  go_wp2
  exact bodyPost_ret (by simp [results, Try.results64, go_sem]; try rfl) rfl ⟨rfl, (below_new _ _).alloc (by simp) _⟩
theorem whole_any (lo hi : Int) (w : World) (h1 : -1000000000000 ≤ lo ∧ lo ≤ 1000000000000) (h2 : -1000000000000 ≤ hi ∧ hi ≤ 1000000000000) : Calls Try.prog 65 #[.agg #[.int .i64 lo, .int .i64 hi]] w fun e w' => e = .returned (.agg #[.int .i64 (flK lo), .int .i64 (-flK (-hi))]) ∧ Below w.heap.size w w' := by
  have e1 := flK_tdiv lo
  have e2 := ceK_tdiv hi
  have b1 : -1000000000000 ≤ lo.tdiv 1000 ∧ lo.tdiv 1000 ≤ 1000000000000 ∧ -2000000000000 ≤ lo.tdiv 1000 * 1000 ∧ lo.tdiv 1000 * 1000 ≤ 2000000000000 := by
    have : flK lo = lo / 1000 := rfl
    rw [this] at e1; split at e1 <;> omega
  have b2 : -1000000000000 ≤ hi.tdiv 1000 ∧ hi.tdiv 1000 ≤ 1000000000000 ∧ -2000000000000 ≤ hi.tdiv 1000 * 1000 ∧ hi.tdiv 1000 * 1000 ≤ 2000000000000 := by
    have : flK (-hi) = -hi / 1000 := rfl
    rw [this] at e2; split at e2 <;> omega
  obtain ⟨a, ha⟩ : ∃ a, a = lo.tdiv 1000 := ⟨_, rfl⟩
  obtain ⟨b, hb⟩ : ∃ b, b = hi.tdiv 1000 := ⟨_, rfl⟩
  rw [← ha] at e1 b1
  rw [← hb] at e2 b2
  have w1 : IntKind.i64.wrap (lo.tdiv 1000) = a := by rw [← ha]; exact wrapI (by omega)
  have w2 : IntKind.i64.wrap (hi.tdiv 1000) = b := by rw [← hb]; exact wrapI (by omega)
  have w3 : IntKind.i64.wrap (a * 1000) = a * 1000 := wrapI (by omega)
  have w4 : IntKind.i64.wrap (b * 1000) = b * 1000 := wrapI (by omega)
  have w5 : IntKind.i64.wrap (a - 1) = a - 1 := wrapI (by omega)
  have w6 : IntKind.i64.wrap (b + 1) = b + 1 := wrapI (by omega)
  have E1 := hide e1; have E2 := hide e2
  clear e1 e2 ha hb h1 h2
  go_enter Try.func65, Try.ntmps65
  go_wp2_with fail
  go_region
  go_wp2_with fail
  all_goals
    refine bodyPost_ret (by simp [results, Try.results65, go_sem]; try rfl) rfl ⟨?_, ((below_new _ _).alloc (by simp) _).drew⟩
    rw [E1.out, E2.out]
    (repeat' split) <;> first | rfl | (exfalso; omega)
set_option maxHeartbeats 2000000 in
theorem total_Yr (f : FuncId) (p : Yr → Sp) (A : Option Addr) (xs : List Yr) (n c : Nat) (w : World) (hn : n = xs.length) (hm : n ≤ 12)
    (eg : ∀ args w, (callFunc f args).run Try.prog w = .ok (.enter f args) w) (hx : Rd w w.heap.size Yr.cells A xs) (hp : ∀ x ∈ xs, (0 ≤ (p x).lo ∧ (p x).lo ≤ 10000000000) ∧ 0 ≤ (p x).hi ∧ (p x).hi ≤ 10000000000)
    (hf : ∀ lo hi wt w', (⟨⟨lo, hi⟩, wt⟩ : Yr) ∈ xs → Below w.heap.size w w' → Calls Try.prog f (#[.agg #[.int .i64 lo, .int .i64 hi, .int .i64 wt]]) w' fun e w'' => e = .returned (.agg #[.int .i64 (p ⟨⟨lo, hi⟩, wt⟩).lo, .int .i64 (p ⟨⟨lo, hi⟩, wt⟩).hi]) ∧ Below w'.heap.size w' w'') :
    Calls Try.prog 61 #[.slice A n c, .func (.func f) #[] #[]] w fun e w' => e = .returned (.agg #[.int .i64 (xs.map fun x => (p x).lo).sum, .int .i64 (xs.map fun x => (p x).hi).sum]) ∧ Below w.heap.size w w' := by
  have Hn := hide hn; have Hx := hide hx; have Hf := hide hf; have Hp := hide hp
  clear hn hx hf hp
  go_enter Try.func61, Try.ntmps61
  go_wp2_with fail
  go_loopw [10] (fun i wr => ∃ k : Nat, k ≤ n ∧ i = .int .i64 k ∧ Below w.heap.size w wr ∧ At wr w.heap.size [.int .i64 ((xs.take k).map fun x => (p x).lo).sum, .int .i64 ((xs.take k).map fun x => (p x).hi).sum] ∧ ∀ j : Nat, wr.frozen? ⟨w.heap.size, j, none⟩ = false) (fun i _ => n - (intOf i).toNat)
  case atStart => exact ⟨0, by omega, rfl, below_new _ _, At.new w _ _ _ rfl _ rfl, fun j => At.frozen_new w _ _ _ rfl j⟩
  case round =>
    obtain ⟨k, hk, rfl, hb, hat, hfz⟩ := hrel
    have s1 := sum_bd (fun x => (p x).lo) 10000000000 (xs.take k) fun x hx => (Hp.out x (List.mem_of_mem_take hx)).1
    have s2 := sum_bd (fun x => (p x).hi) 10000000000 (xs.take k) fun x hx => (Hp.out x (List.mem_of_mem_take hx)).2
    have htl : ((xs.take k).length : Int) ≤ 12 := by rw [List.length_take]; have := Hn.out; omega
    by_cases hlt : k < n
    · obtain ⟨b, off, lo, hi, wt, rfl, hB, hxk, hc0, hc1, hc2⟩ := (Hx.out.below hb).yr (i := k) (by have := Hn.out; omega)
      have hmem := List.mem_of_getElem? hxk
      have H := hide (fun W (hW : Below wr.heap.size wr W) => Hf.out lo hi wt W hmem (hb.trans (hW.mono hb.size)))
      have hpx := Hp.out _ hmem
      have t1 : ((xs.take (k + 1)).map fun x => (p x).lo).sum = ((xs.take k).map fun x => (p x).lo).sum + (p ⟨⟨lo, hi⟩, wt⟩).lo := by rw [take_snoc hxk]; simp
      have t2 : ((xs.take (k + 1)).map fun x => (p x).hi).sum = ((xs.take k).map fun x => (p x).hi).sum + (p ⟨⟨lo, hi⟩, wt⟩).hi := by rw [take_snoc hxk]; simp
      obtain ⟨u, hu⟩ : ∃ u, u = ((xs.take k).map fun x => (p x).lo).sum := ⟨_, rfl⟩
      obtain ⟨v, hv⟩ : ∃ v, v = ((xs.take k).map fun x => (p x).hi).sum := ⟨_, rfl⟩
      obtain ⟨q, hq⟩ : ∃ q, q = p ⟨⟨lo, hi⟩, wt⟩ := ⟨_, rfl⟩
      rw [← hu] at s1 t1 hat
      rw [← hv] at s2 t2 hat
      rw [← hq] at t1 t2 hpx
      have w1 : IntKind.i64.wrap (u + q.lo) = u + q.lo := wrapI (by omega)
      have w2 : IntKind.i64.wrap (v + q.hi) = v + q.hi := wrapI (by omega)
      have T1 := hide t1; have T2 := hide t2
      have Q := hide hq
      obtain ⟨z0, z1⟩ := hat.c2
      have y0 := hfz 0
      have y1 := hfz 1
      have hlw := hat.1
      have hsz := hb.size
      clear t1 t2 hu hv hq s1 s2 htl hpx hxk hmem
      go_wp2_with fail
      refine calls_gen fun W HW => ?_
      have hbW : Below wr.heap.size wr W := by rw [← HW.out]; exact below_new _ _
      refine (H.out W hbW).mono ?_
      rintro e w3 ⟨rfl, hb3⟩
      rw [← Q.out]
      have hb03 := hbW.trans (hb3.mono hbW.size)
      have hat3 := hat.below hb03
      have hfz3 : ∀ j : Nat, w3.frozen? ⟨w.heap.size, j, none⟩ = false := fun j => (hb03.frozen (p := ⟨w.heap.size, j, none⟩) hlw).trans (hfz j)
      obtain ⟨p0, p1⟩ := hat3.c2
      have g0 := hfz3 0
      have g1 := hfz3 1
      have hs3 : w.heap.size < w3.heap.size := hat3.1
      clear z0 z1 y0 y1
      go_wp2_with fail
      refine ⟨⟨k + 1, by omega, by go_num, ?_, ?_, ?_⟩, by simp [intOf]; omega⟩
      · exact (((hb.trans (hb03.mono hb.size)).setCell (Nat.le_refl _) _).setCell (Nat.le_refl _) _).alloc (by simp [World.setCell]; omega) _
      · rw [T1.out, T2.out]
        simpa using ((hat3.set (j := 0) (.int .i64 (u + q.lo)) (by simp)).set (j := 1) (.int .i64 (v + q.hi)) (by simp)).alloc _
      · intro j
        refine ((below_new _ _).frozen (p := ⟨w.heap.size, j, none⟩) (by simpa [World.setCell] using hs3)).trans ?_
        rw [World.frozen?_setCell, World.frozen?_setCell]
        exact hfz3 j
    · obtain rfl : n = k := by omega
      have e0 : xs.take n = xs := List.take_of_length_le (by rw [← Hn.out]; exact Nat.le_refl _)
      rw [e0] at hat
      obtain ⟨z0, z1⟩ := hat.c2
      have y0 := hfz 0
      have y1 := hfz 1
      go_wp2_with fail
      obtain ⟨k0, k1⟩ := two_set wr w.heap.size (.int .i64 (List.map (fun x => (p x).lo) xs).sum) (.int .i64 (List.map (fun x => (p x).hi) xs).sum) z0 z1
      exact bodyPost_ret (by simp [results, Try.results61, go_sem, k0, k1]; try rfl) rfl ⟨rfl, (hb.setCell (Nat.le_refl _) _).setCell (Nat.le_refl _) _⟩
set_option maxHeartbeats 2000000 in
theorem total_Sp (f : FuncId) (p : Sp → Sp) (A : Option Addr) (xs : List Sp) (n c : Nat) (w : World) (hn : n = xs.length) (hm : n ≤ 12)
    (eg : ∀ args w, (callFunc f args).run Try.prog w = .ok (.enter f args) w) (hx : Rd w w.heap.size Sp.cells A xs) (hp : ∀ x ∈ xs, (0 ≤ (p x).lo ∧ (p x).lo ≤ 10000000000) ∧ 0 ≤ (p x).hi ∧ (p x).hi ≤ 10000000000)
    (hf : ∀ lo hi w', (⟨lo, hi⟩ : Sp) ∈ xs → Below w.heap.size w w' → Calls Try.prog f (#[.agg #[.int .i64 lo, .int .i64 hi]]) w' fun e w'' => e = .returned (.agg #[.int .i64 (p ⟨lo, hi⟩).lo, .int .i64 (p ⟨lo, hi⟩).hi]) ∧ Below w'.heap.size w' w'') :
    Calls Try.prog 63 #[.slice A n c, .func (.func f) #[] #[]] w fun e w' => e = .returned (.agg #[.int .i64 (xs.map fun x => (p x).lo).sum, .int .i64 (xs.map fun x => (p x).hi).sum]) ∧ Below w.heap.size w w' := by
  have Hn := hide hn; have Hx := hide hx; have Hf := hide hf; have Hp := hide hp
  clear hn hx hf hp
  go_enter Try.func63, Try.ntmps63
  go_wp2_with fail
  go_loopw [10] (fun i wr => ∃ k : Nat, k ≤ n ∧ i = .int .i64 k ∧ Below w.heap.size w wr ∧ At wr w.heap.size [.int .i64 ((xs.take k).map fun x => (p x).lo).sum, .int .i64 ((xs.take k).map fun x => (p x).hi).sum] ∧ ∀ j : Nat, wr.frozen? ⟨w.heap.size, j, none⟩ = false) (fun i _ => n - (intOf i).toNat)
  case atStart => exact ⟨0, by omega, rfl, below_new _ _, At.new w _ _ _ rfl _ rfl, fun j => At.frozen_new w _ _ _ rfl j⟩
  case round =>
    obtain ⟨k, hk, rfl, hb, hat, hfz⟩ := hrel
    have s1 := sum_bd (fun x => (p x).lo) 10000000000 (xs.take k) fun x hx => (Hp.out x (List.mem_of_mem_take hx)).1
    have s2 := sum_bd (fun x => (p x).hi) 10000000000 (xs.take k) fun x hx => (Hp.out x (List.mem_of_mem_take hx)).2
    have htl : ((xs.take k).length : Int) ≤ 12 := by rw [List.length_take]; have := Hn.out; omega
    by_cases hlt : k < n
    · obtain ⟨b, off, lo, hi, rfl, hB, hxk, hc0, hc1⟩ := (Hx.out.below hb).sp (i := k) (by have := Hn.out; omega)
      have hmem := List.mem_of_getElem? hxk
      have H := hide (fun W (hW : Below wr.heap.size wr W) => Hf.out lo hi W hmem (hb.trans (hW.mono hb.size)))
      have hpx := Hp.out _ hmem
      have t1 : ((xs.take (k + 1)).map fun x => (p x).lo).sum = ((xs.take k).map fun x => (p x).lo).sum + (p ⟨lo, hi⟩).lo := by rw [take_snoc hxk]; simp
      have t2 : ((xs.take (k + 1)).map fun x => (p x).hi).sum = ((xs.take k).map fun x => (p x).hi).sum + (p ⟨lo, hi⟩).hi := by rw [take_snoc hxk]; simp
      obtain ⟨u, hu⟩ : ∃ u, u = ((xs.take k).map fun x => (p x).lo).sum := ⟨_, rfl⟩
      obtain ⟨v, hv⟩ : ∃ v, v = ((xs.take k).map fun x => (p x).hi).sum := ⟨_, rfl⟩
      obtain ⟨q, hq⟩ : ∃ q, q = p ⟨lo, hi⟩ := ⟨_, rfl⟩
      rw [← hu] at s1 t1 hat
      rw [← hv] at s2 t2 hat
      rw [← hq] at t1 t2 hpx
      have w1 : IntKind.i64.wrap (u + q.lo) = u + q.lo := wrapI (by omega)
      have w2 : IntKind.i64.wrap (v + q.hi) = v + q.hi := wrapI (by omega)
      have T1 := hide t1; have T2 := hide t2
      have Q := hide hq
      obtain ⟨z0, z1⟩ := hat.c2
      have y0 := hfz 0
      have y1 := hfz 1
      have hlw := hat.1
      have hsz := hb.size
      clear t1 t2 hu hv hq s1 s2 htl hpx hxk hmem
      go_wp2_with fail
      refine calls_gen fun W HW => ?_
      have hbW : Below wr.heap.size wr W := by rw [← HW.out]; exact below_new _ _
      refine (H.out W hbW).mono ?_
      rintro e w3 ⟨rfl, hb3⟩
      rw [← Q.out]
      have hb03 := hbW.trans (hb3.mono hbW.size)
      have hat3 := hat.below hb03
      have hfz3 : ∀ j : Nat, w3.frozen? ⟨w.heap.size, j, none⟩ = false := fun j => (hb03.frozen (p := ⟨w.heap.size, j, none⟩) hlw).trans (hfz j)
      obtain ⟨p0, p1⟩ := hat3.c2
      have g0 := hfz3 0
      have g1 := hfz3 1
      have hs3 : w.heap.size < w3.heap.size := hat3.1
      clear z0 z1 y0 y1
      go_wp2_with fail
      refine ⟨⟨k + 1, by omega, by go_num, ?_, ?_, ?_⟩, by simp [intOf]; omega⟩
      · exact (((hb.trans (hb03.mono hb.size)).setCell (Nat.le_refl _) _).setCell (Nat.le_refl _) _).alloc (by simp [World.setCell]; omega) _
      · rw [T1.out, T2.out]
        simpa using ((hat3.set (j := 0) (.int .i64 (u + q.lo)) (by simp)).set (j := 1) (.int .i64 (v + q.hi)) (by simp)).alloc _
      · intro j
        refine ((below_new _ _).frozen (p := ⟨w.heap.size, j, none⟩) (by simpa [World.setCell] using hs3)).trans ?_
        rw [World.frozen?_setCell, World.frozen?_setCell]
        exact hfz3 j
    · obtain rfl : n = k := by omega
      have e0 : xs.take n = xs := List.take_of_length_le (by rw [← Hn.out]; exact Nat.le_refl _)
      rw [e0] at hat
      obtain ⟨z0, z1⟩ := hat.c2
      have y0 := hfz 0
      have y1 := hfz 1
      go_wp2_with fail
      obtain ⟨k0, k1⟩ := two_set wr w.heap.size (.int .i64 (List.map (fun x => (p x).lo) xs).sum) (.int .i64 (List.map (fun x => (p x).hi) xs).sum) z0 z1
      exact bodyPost_ret (by simp [results, Try.results63, go_sem, k0, k1]; try rfl) rfl ⟨rfl, (hb.setCell (Nat.le_refl _) _).setCell (Nat.le_refl _) _⟩
theorem enters_src1 : ∀ args w, (callFunc 58 args).run Try.prog w = .ok (.enter 58 args) w := enters_of Try.func58 (by kernel_rfl) rfl
theorem enters_src2 : ∀ args w, (callFunc 62 args).run Try.prog w = .ok (.enter 62 args) w := enters_of Try.func62 (by kernel_rfl) rfl
theorem enters_src3 : ∀ args w, (callFunc 64 args).run Try.prog w = .ok (.enter 64 args) w := enters_of Try.func64 (by kernel_rfl) rfl
def Yr.bad (y : Yr) : Bool := !(y.ok)
theorem spOk_bad (m : Int) (s : Sp) : Sp.ok 0 m s = !(Sp.bad m s) := by
  rw [Bool.eq_iff_iff]; simp only [Sp.bad, Sp.ok, Bool.and_eq_true, decide_eq_true_eq, Bool.not_eq_true', Bool.or_eq_false_iff, decide_eq_false_iff_not]; omega
theorem src1_any (lo hi wt : Int) (w : World) : Calls Try.prog 58 #[.agg #[.int .i64 lo, .int .i64 hi, .int .i64 wt]] w fun e w' => e = .returned (.bool (Yr.bad ⟨⟨lo, hi⟩, wt⟩)) ∧ Below w.heap.size w w' := by
  have e1 : anyBad 10000 [⟨lo, hi⟩] = !(Sp.ok 0 10000 ⟨lo, hi⟩) := by simp [anyBad, spOk_bad]
  have e2 : Yr.bad ⟨⟨lo, hi⟩, wt⟩ = !(Sp.ok 0 10000 ⟨lo, hi⟩ && inB 0 1000000 wt) := rfl
  have hr := hide (Rd.new (cells := Sp.cells) (w.alloc (.cells #[.int .i64 lo, .int .i64 hi, .int .i64 wt] 88)) #[.int .i64 lo, .int .i64 hi] 24 [⟨lo, hi⟩] rfl)
  have hq : (w.alloc (.cells #[.int .i64 lo, .int .i64 hi, .int .i64 wt] 88)).heap.size = w.heap.size + 1 := by simp
  have hat := (At.new w #[.int .i64 lo, .int .i64 hi, .int .i64 wt] 88 w.heap.size rfl _ rfl).alloc (.cells #[.int .i64 lo, .int .i64 hi] 24)
  have hb0 : Below w.heap.size w ((w.alloc (.cells #[.int .i64 lo, .int .i64 hi, .int .i64 wt] 88)).alloc (.cells #[.int .i64 lo, .int .i64 hi] 24)) := (below_new _ _).alloc (by simp) _
  have E1 := hide e1; have E2 := hide e2; have Hat := hide hat; have HB := hide hb0
  clear e1 e2 hat hb0 hq
  go_enter Try.func58, Try.ntmps58
  go_wp2_with fail
  refine (proper_any 10000 _ [⟨lo, hi⟩] 1 1 _ rfl (by omega) (by simpa using hr.out)).mono ?_
  rintro e w2 ⟨rfl, hb⟩
  rw [E1.out, Bool.not_not]
  obtain ⟨q0, q1, q2⟩ := (Hat.out.below hb).c3
  have hB2 := HB.out.trans (hb.mono HB.out.size)
  cases hs : Sp.ok 0 10000 ⟨lo, hi⟩
  · rw [hs] at E2
    go_wp2_with fail
    go_ret
    exact ⟨by rw [E2.out]; rfl, hB2⟩
  · rw [hs] at E2
    go_wp2_with fail
    refine (from_any _ _ _ _).mono ?_
    rintro e w3 ⟨rfl, rfl⟩
    go_wp2_with fail
    go_ret
    exact ⟨by rw [E2.out]; simp, hB2⟩
end Go.Proofs.Ytkmocikcohhdoaa
