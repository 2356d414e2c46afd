/- Gallery: Source's own functions, by contracts. Gallery: Source, by contract. Gallery: the reference's Years and Source, by contract. -/
import Derived.Test.YtkmocikcohhdoaaF2
import Derived.Test.YtkmocikcohhdoaaG7
import Derived.Test.YtkmocikcohhdoaaBx
import Derived.Deep.QuietTactic
import Derived.BigQuiet
import Derived.Handy
import Derived.Deep.RegionHeld3
import Derived.Deep.DrawnRows
set_option linter.unusedVariables false
set_option linter.unusedSimpArgs false
namespace Go.Proofs.Ytkmocikcohhdoaa
open Go.RowKit Go.Shelf
attribute [local go_sem] ite_min ite_max

theorem src4_any (n : Int) (w : World) : Calls Try.prog 66 #[.int .i64 n] w fun e w' => e = .returned (.int .i64 (clip n)) ∧ Below w.heap.size w w' := by
  go_enter Try.func66, Try.ntmps66
  go_wp2
  all_goals (go_ret; exact ⟨ret_int (by first | rfl | (simp only [clip]; omega)), Below.refl _ _⟩)

/-- A result of two cells that is read behind the body. -/
theorem src2_any (lo hi wt : Int) (w : World) (h : Yr.ok ⟨⟨lo, hi⟩, wt⟩ = true) : Calls Try.prog 62 #[.agg #[.int .i64 lo, .int .i64 hi, .int .i64 wt]] w fun e w' => e = .returned (.agg #[.int .i64 (lo * wt), .int .i64 (hi * wt)]) ∧ Below w.heap.size w w' := by
  obtain ⟨h1, h2, h3, h4, h5⟩ := Yr.ok_bd h
  simp only at h1 h2 h3 h4 h5
  have m1 := mul_bd (x := 10000) (y := 1000000) h1 (by omega) h4 h5
  have m2 := mul_bd (x := 10000) (y := 1000000) (show 0 ≤ hi by omega) h3 h4 h5
  have e1 : IntKind.i64.wrap (lo * wt) = lo * wt := wrapI (by omega)
  have e2 : IntKind.i64.wrap (hi * wt) = hi * wt := wrapI (by omega)
  clear h m1 m2 h1 h2 h3 h4 h5
  go_enter Try.func62, Try.ntmps62
  go_wp2
  exact bodyPost_ret (by simp [results, Try.results62, go_sem]; try rfl) rfl ⟨rfl, (below_new _ _).alloc (by simp) _⟩
theorem src3_any (lo hi : Int) (w : World) : Calls Try.prog 64 #[.agg #[.int .i64 lo, .int .i64 hi]] w fun e w' => e = .returned (.agg #[.int .i64 lo, .int .i64 hi]) ∧ Below w.heap.size w w' := by
  go_enter Try.func64, Try.ntmps64
  go_wp2
  exact bodyPost_ret (by simp [results, Try.results64, go_sem]; try rfl) rfl ⟨rfl, (below_new _ _).alloc (by simp) _⟩
theorem whole_any (lo hi : Int) (w : World) (h1 : -1000000000000 ≤ lo ∧ lo ≤ 1000000000000) (h2 : -1000000000000 ≤ hi ∧ hi ≤ 1000000000000) : Calls Try.prog 65 #[.agg #[.int .i64 lo, .int .i64 hi]] w fun e w' => e = .returned (.agg #[.int .i64 (flK lo), .int .i64 (-flK (-hi))]) ∧ Below w.heap.size w w' := by
  have e1 := flK_tdiv lo
  have e2 := ceK_tdiv hi
  have b1 : -1000000000000 ≤ lo.tdiv 1000 ∧ lo.tdiv 1000 ≤ 1000000000000 ∧ -2000000000000 ≤ lo.tdiv 1000 * 1000 ∧ lo.tdiv 1000 * 1000 ≤ 2000000000000 := by
    have : flK lo = lo / 1000 := rfl
    rw [this] at e1; split at e1 <;> omega
  have b2 : -1000000000000 ≤ hi.tdiv 1000 ∧ hi.tdiv 1000 ≤ 1000000000000 ∧ -2000000000000 ≤ hi.tdiv 1000 * 1000 ∧ hi.tdiv 1000 * 1000 ≤ 2000000000000 := by
    have : flK (-hi) = -hi / 1000 := rfl
    rw [this] at e2; split at e2 <;> omega
  obtain ⟨a, ha⟩ : ∃ a, a = lo.tdiv 1000 := ⟨_, rfl⟩
  obtain ⟨b, hb⟩ : ∃ b, b = hi.tdiv 1000 := ⟨_, rfl⟩
  rw [← ha] at e1 b1
  rw [← hb] at e2 b2
  have w1 : IntKind.i64.wrap (lo.tdiv 1000) = a := by rw [← ha]; exact wrapI (by omega)
  have w2 : IntKind.i64.wrap (hi.tdiv 1000) = b := by rw [← hb]; exact wrapI (by omega)
  have w3 : IntKind.i64.wrap (a * 1000) = a * 1000 := wrapI (by omega)
  have w4 : IntKind.i64.wrap (b * 1000) = b * 1000 := wrapI (by omega)
  have w5 : IntKind.i64.wrap (a - 1) = a - 1 := wrapI (by omega)
  have w6 : IntKind.i64.wrap (b + 1) = b + 1 := wrapI (by omega)
  have E1 := hide e1; have E2 := hide e2
  clear e1 e2 ha hb h1 h2
  go_enter Try.func65, Try.ntmps65
  go_wp2_with fail
  go_region
  go_wp2_with fail
  all_goals
    refine bodyPost_ret (by simp [results, Try.results65, go_sem]; try rfl) rfl ⟨?_, ((below_new _ _).alloc (by simp) _).drew⟩
    rw [E1.out, E2.out]
    (repeat' split) <;> first | rfl | (exfalso; omega)
set_option maxHeartbeats 2000000 in
theorem total_Yr (f : FuncId) (p : Yr → Sp) (A : Option Addr) (xs : List Yr) (n c : Nat) (w : World) (hn : n = xs.length) (hm : n ≤ 12)
    (eg : ∀ args w, (callFunc f args).run Try.prog w = .ok (.enter f args) w) (hx : Rd w w.heap.size Yr.cells A xs) (hp : ∀ x ∈ xs, (0 ≤ (p x).lo ∧ (p x).lo ≤ 10000000000) ∧ 0 ≤ (p x).hi ∧ (p x).hi ≤ 10000000000)
    (hf : ∀ lo hi wt w', (⟨⟨lo, hi⟩, wt⟩ : Yr) ∈ xs → Below w.heap.size w w' → Calls Try.prog f (#[.agg #[.int .i64 lo, .int .i64 hi, .int .i64 wt]]) w' fun e w'' => e = .returned (.agg #[.int .i64 (p ⟨⟨lo, hi⟩, wt⟩).lo, .int .i64 (p ⟨⟨lo, hi⟩, wt⟩).hi]) ∧ Below w'.heap.size w' w'') :
    Calls Try.prog 61 #[.slice A n c, .func (.func f) #[] #[]] w fun e w' => e = .returned (.agg #[.int .i64 (xs.map fun x => (p x).lo).sum, .int .i64 (xs.map fun x => (p x).hi).sum]) ∧ Below w.heap.size w w' := by
  have Hn := hide hn; have Hx := hide hx; have Hf := hide hf; have Hp := hide hp
  clear hn hx hf hp
  go_enter Try.func61, Try.ntmps61
  go_wp2_with fail
  go_loopw [10] (fun i wr => ∃ k : Nat, k ≤ n ∧ i = .int .i64 k ∧ Below w.heap.size w wr ∧ At wr w.heap.size [.int .i64 ((xs.take k).map fun x => (p x).lo).sum, .int .i64 ((xs.take k).map fun x => (p x).hi).sum] ∧ ∀ j : Nat, wr.frozen? ⟨w.heap.size, j, none⟩ = false) (fun i _ => n - (intOf i).toNat)
  case atStart => exact ⟨0, by omega, rfl, below_new _ _, At.new w _ _ _ rfl _ rfl, fun j => At.frozen_new w _ _ _ rfl j⟩
  case round =>
    obtain ⟨k, hk, rfl, hb, hat, hfz⟩ := hrel
    have s1 := sum_bd (fun x => (p x).lo) 10000000000 (xs.take k) fun x hx => (Hp.out x (List.mem_of_mem_take hx)).1
    have s2 := sum_bd (fun x => (p x).hi) 10000000000 (xs.take k) fun x hx => (Hp.out x (List.mem_of_mem_take hx)).2
    have htl : ((xs.take k).length : Int) ≤ 12 := by rw [List.length_take]; have := Hn.out; omega
    by_cases hlt : k < n
    · obtain ⟨b, off, lo, hi, wt, rfl, hB, hxk, hc0, hc1, hc2⟩ := (Hx.out.below hb).yr (i := k) (by have := Hn.out; omega)
      have hmem := List.mem_of_getElem? hxk
      have H := hide (fun W (hW : Below wr.heap.size wr W) => Hf.out lo hi wt W hmem (hb.trans (hW.mono hb.size)))
      have hpx := Hp.out _ hmem
      have t1 : ((xs.take (k + 1)).map fun x => (p x).lo).sum = ((xs.take k).map fun x => (p x).lo).sum + (p ⟨⟨lo, hi⟩, wt⟩).lo := by rw [take_snoc hxk]; simp
      have t2 : ((xs.take (k + 1)).map fun x => (p x).hi).sum = ((xs.take k).map fun x => (p x).hi).sum + (p ⟨⟨lo, hi⟩, wt⟩).hi := by rw [take_snoc hxk]; simp
      obtain ⟨u, hu⟩ : ∃ u, u = ((xs.take k).map fun x => (p x).lo).sum := ⟨_, rfl⟩
      obtain ⟨v, hv⟩ : ∃ v, v = ((xs.take k).map fun x => (p x).hi).sum := ⟨_, rfl⟩
      obtain ⟨q, hq⟩ : ∃ q, q = p ⟨⟨lo, hi⟩, wt⟩ := ⟨_, rfl⟩
      rw [← hu] at s1 t1 hat
      rw [← hv] at s2 t2 hat
      rw [← hq] at t1 t2 hpx
      have w1 : IntKind.i64.wrap (u + q.lo) = u + q.lo := wrapI (by omega)
      have w2 : IntKind.i64.wrap (v + q.hi) = v + q.hi := wrapI (by omega)
      have T1 := hide t1; have T2 := hide t2
      have Q := hide hq
      obtain ⟨z0, z1⟩ := hat.c2
      have y0 := hfz 0
      have y1 := hfz 1
      have hlw := hat.1
      have hsz := hb.size
      clear t1 t2 hu hv hq s1 s2 htl hpx hxk hmem
      go_wp2_with fail
      refine calls_gen fun W HW => ?_
      have hbW : Below wr.heap.size wr W := by rw [← HW.out]; exact below_new _ _
      refine (H.out W hbW).mono ?_
      rintro e w3 ⟨rfl, hb3⟩
      rw [← Q.out]
      have hb03 := hbW.trans (hb3.mono hbW.size)
      have hat3 := hat.below hb03
      have hfz3 : ∀ j : Nat, w3.frozen? ⟨w.heap.size, j, none⟩ = false := fun j => (hb03.frozen (p := ⟨w.heap.size, j, none⟩) hlw).trans (hfz j)
      obtain ⟨p0, p1⟩ := hat3.c2
      have g0 := hfz3 0
      have g1 := hfz3 1
      have hs3 : w.heap.size < w3.heap.size := hat3.1
      clear z0 z1 y0 y1
      go_wp2_with fail
      refine ⟨⟨k + 1, by omega, by go_num, ?_, ?_, ?_⟩, by simp [intOf]; omega⟩
      · exact (((hb.trans (hb03.mono hb.size)).setCell (Nat.le_refl _) _).setCell (Nat.le_refl _) _).alloc (by simp [World.setCell]; omega) _
      · rw [T1.out, T2.out]
        simpa using ((hat3.set (j := 0) (.int .i64 (u + q.lo)) (by simp)).set (j := 1) (.int .i64 (v + q.hi)) (by simp)).alloc _
      · intro j
        refine ((below_new _ _).frozen (p := ⟨w.heap.size, j, none⟩) (by simpa [World.setCell] using hs3)).trans ?_
        rw [World.frozen?_setCell, World.frozen?_setCell]
        exact hfz3 j
    · obtain rfl : n = k := by omega
      have e0 : xs.take n = xs := List.take_of_length_le (by rw [← Hn.out]; exact Nat.le_refl _)
      rw [e0] at hat
      obtain ⟨z0, z1⟩ := hat.c2
      have y0 := hfz 0
      have y1 := hfz 1
      go_wp2_with fail
      obtain ⟨k0, k1⟩ := two_set wr w.heap.size (.int .i64 (List.map (fun x => (p x).lo) xs).sum) (.int .i64 (List.map (fun x => (p x).hi) xs).sum) z0 z1
      exact bodyPost_ret (by simp [results, Try.results61, go_sem, k0, k1]; try rfl) rfl ⟨rfl, (hb.setCell (Nat.le_refl _) _).setCell (Nat.le_refl _) _⟩
set_option maxHeartbeats 2000000 in
theorem total_Sp (f : FuncId) (p : Sp → Sp) (A : Option Addr) (xs : List Sp) (n c : Nat) (w : World) (hn : n = xs.length) (hm : n ≤ 12)
    (eg : ∀ args w, (callFunc f args).run Try.prog w = .ok (.enter f args) w) (hx : Rd w w.heap.size Sp.cells A xs) (hp : ∀ x ∈ xs, (0 ≤ (p x).lo ∧ (p x).lo ≤ 10000000000) ∧ 0 ≤ (p x).hi ∧ (p x).hi ≤ 10000000000)
    (hf : ∀ lo hi w', (⟨lo, hi⟩ : Sp) ∈ xs → Below w.heap.size w w' → Calls Try.prog f (#[.agg #[.int .i64 lo, .int .i64 hi]]) w' fun e w'' => e = .returned (.agg #[.int .i64 (p ⟨lo, hi⟩).lo, .int .i64 (p ⟨lo, hi⟩).hi]) ∧ Below w'.heap.size w' w'') :
    Calls Try.prog 63 #[.slice A n c, .func (.func f) #[] #[]] w fun e w' => e = .returned (.agg #[.int .i64 (xs.map fun x => (p x).lo).sum, .int .i64 (xs.map fun x => (p x).hi).sum]) ∧ Below w.heap.size w w' := by
  have Hn := hide hn; have Hx := hide hx; have Hf := hide hf; have Hp := hide hp
  clear hn hx hf hp
  go_enter Try.func63, Try.ntmps63
  go_wp2_with fail
  go_loopw [10] (fun i wr => ∃ k : Nat, k ≤ n ∧ i = .int .i64 k ∧ Below w.heap.size w wr ∧ At wr w.heap.size [.int .i64 ((xs.take k).map fun x => (p x).lo).sum, .int .i64 ((xs.take k).map fun x => (p x).hi).sum] ∧ ∀ j : Nat, wr.frozen? ⟨w.heap.size, j, none⟩ = false) (fun i _ => n - (intOf i).toNat)
  case atStart => exact ⟨0, by omega, rfl, below_new _ _, At.new w _ _ _ rfl _ rfl, fun j => At.frozen_new w _ _ _ rfl j⟩
  case round =>
    obtain ⟨k, hk, rfl, hb, hat, hfz⟩ := hrel
    have s1 := sum_bd (fun x => (p x).lo) 10000000000 (xs.take k) fun x hx => (Hp.out x (List.mem_of_mem_take hx)).1
    have s2 := sum_bd (fun x => (p x).hi) 10000000000 (xs.take k) fun x hx => (Hp.out x (List.mem_of_mem_take hx)).2
    have htl : ((xs.take k).length : Int) ≤ 12 := by rw [List.length_take]; have := Hn.out; omega
    by_cases hlt : k < n
    · obtain ⟨b, off, lo, hi, rfl, hB, hxk, hc0, hc1⟩ := (Hx.out.below hb).sp (i := k) (by have := Hn.out; omega)
      have hmem := List.mem_of_getElem? hxk
      have H := hide (fun W (hW : Below wr.heap.size wr W) => Hf.out lo hi W hmem (hb.trans (hW.mono hb.size)))
      have hpx := Hp.out _ hmem
      have t1 : ((xs.take (k + 1)).map fun x => (p x).lo).sum = ((xs.take k).map fun x => (p x).lo).sum + (p ⟨lo, hi⟩).lo := by rw [take_snoc hxk]; simp
      have t2 : ((xs.take (k + 1)).map fun x => (p x).hi).sum = ((xs.take k).map fun x => (p x).hi).sum + (p ⟨lo, hi⟩).hi := by rw [take_snoc hxk]; simp
      obtain ⟨u, hu⟩ : ∃ u, u = ((xs.take k).map fun x => (p x).lo).sum := ⟨_, rfl⟩
      obtain ⟨v, hv⟩ : ∃ v, v = ((xs.take k).map fun x => (p x).hi).sum := ⟨_, rfl⟩
      obtain ⟨q, hq⟩ : ∃ q, q = p ⟨lo, hi⟩ := ⟨_, rfl⟩
      rw [← hu] at s1 t1 hat
      rw [← hv] at s2 t2 hat
      rw [← hq] at t1 t2 hpx
      have w1 : IntKind.i64.wrap (u + q.lo) = u + q.lo := wrapI (by omega)
      have w2 : IntKind.i64.wrap (v + q.hi) = v + q.hi := wrapI (by omega)
      have T1 := hide t1; have T2 := hide t2
      have Q := hide hq
      obtain ⟨z0, z1⟩ := hat.c2
      have y0 := hfz 0
      have y1 := hfz 1
      have hlw := hat.1
      have hsz := hb.size
      clear t1 t2 hu hv hq s1 s2 htl hpx hxk hmem
      go_wp2_with fail
      refine calls_gen fun W HW => ?_
      have hbW : Below wr.heap.size wr W := by rw [← HW.out]; exact below_new _ _
      refine (H.out W hbW).mono ?_
      rintro e w3 ⟨rfl, hb3⟩
      rw [← Q.out]
      have hb03 := hbW.trans (hb3.mono hbW.size)
      have hat3 := hat.below hb03
      have hfz3 : ∀ j : Nat, w3.frozen? ⟨w.heap.size, j, none⟩ = false := fun j => (hb03.frozen (p := ⟨w.heap.size, j, none⟩) hlw).trans (hfz j)
      obtain ⟨p0, p1⟩ := hat3.c2
      have g0 := hfz3 0
      have g1 := hfz3 1
      have hs3 : w.heap.size < w3.heap.size := hat3.1
      clear z0 z1 y0 y1
      go_wp2_with fail
      refine ⟨⟨k + 1, by omega, by go_num, ?_, ?_, ?_⟩, by simp [intOf]; omega⟩
      · exact (((hb.trans (hb03.mono hb.size)).setCell (Nat.le_refl _) _).setCell (Nat.le_refl _) _).alloc (by simp [World.setCell]; omega) _
      · rw [T1.out, T2.out]
        simpa using ((hat3.set (j := 0) (.int .i64 (u + q.lo)) (by simp)).set (j := 1) (.int .i64 (v + q.hi)) (by simp)).alloc _
      · intro j
        refine ((below_new _ _).frozen (p := ⟨w.heap.size, j, none⟩) (by simpa [World.setCell] using hs3)).trans ?_
        rw [World.frozen?_setCell, World.frozen?_setCell]
        exact hfz3 j
    · obtain rfl : n = k := by omega
      have e0 : xs.take n = xs := List.take_of_length_le (by rw [← Hn.out]; exact Nat.le_refl _)
      rw [e0] at hat
      obtain ⟨z0, z1⟩ := hat.c2
      have y0 := hfz 0
      have y1 := hfz 1
      go_wp2_with fail
      obtain ⟨k0, k1⟩ := two_set wr w.heap.size (.int .i64 (List.map (fun x => (p x).lo) xs).sum) (.int .i64 (List.map (fun x => (p x).hi) xs).sum) z0 z1
      exact bodyPost_ret (by simp [results, Try.results63, go_sem, k0, k1]; try rfl) rfl ⟨rfl, (hb.setCell (Nat.le_refl _) _).setCell (Nat.le_refl _) _⟩
theorem enters_src1 : ∀ args w, (callFunc 58 args).run Try.prog w = .ok (.enter 58 args) w := enters_of Try.func58 (by kernel_rfl) rfl
theorem enters_src2 : ∀ args w, (callFunc 62 args).run Try.prog w = .ok (.enter 62 args) w := enters_of Try.func62 (by kernel_rfl) rfl
theorem enters_src3 : ∀ args w, (callFunc 64 args).run Try.prog w = .ok (.enter 64 args) w := enters_of Try.func64 (by kernel_rfl) rfl
def Yr.bad (y : Yr) : Bool := !(y.ok)
theorem spOk_bad (m : Int) (s : Sp) : Sp.ok 0 m s = !(Sp.bad m s) := by
  rw [Bool.eq_iff_iff]; simp only [Sp.bad, Sp.ok, Bool.and_eq_true, decide_eq_true_eq, Bool.not_eq_true', Bool.or_eq_false_iff, decide_eq_false_iff_not]; omega
theorem src1_any (lo hi wt : Int) (w : World) : Calls Try.prog 58 #[.agg #[.int .i64 lo, .int .i64 hi, .int .i64 wt]] w fun e w' => e = .returned (.bool (Yr.bad ⟨⟨lo, hi⟩, wt⟩)) ∧ Below w.heap.size w w' := by
  have e1 : anyBad 10000 [⟨lo, hi⟩] = !(Sp.ok 0 10000 ⟨lo, hi⟩) := by simp [anyBad, spOk_bad]
  have e2 : Yr.bad ⟨⟨lo, hi⟩, wt⟩ = !(Sp.ok 0 10000 ⟨lo, hi⟩ && inB 0 1000000 wt) := rfl
  have hr := hide (Rd.new (cells := Sp.cells) (w.alloc (.cells #[.int .i64 lo, .int .i64 hi, .int .i64 wt] 88)) #[.int .i64 lo, .int .i64 hi] 24 [⟨lo, hi⟩] rfl)
  have hq : (w.alloc (.cells #[.int .i64 lo, .int .i64 hi, .int .i64 wt] 88)).heap.size = w.heap.size + 1 := by simp
  have hat := (At.new w #[.int .i64 lo, .int .i64 hi, .int .i64 wt] 88 w.heap.size rfl _ rfl).alloc (.cells #[.int .i64 lo, .int .i64 hi] 24)
  have hb0 : Below w.heap.size w ((w.alloc (.cells #[.int .i64 lo, .int .i64 hi, .int .i64 wt] 88)).alloc (.cells #[.int .i64 lo, .int .i64 hi] 24)) := (below_new _ _).alloc (by simp) _
  have E1 := hide e1; have E2 := hide e2; have Hat := hide hat; have HB := hide hb0
  clear e1 e2 hat hb0 hq
  go_enter Try.func58, Try.ntmps58
  go_wp2_with fail
  refine (proper_any 10000 _ [⟨lo, hi⟩] 1 1 _ rfl (by omega) (by simpa using hr.out)).mono ?_
  rintro e w2 ⟨rfl, hb⟩
  rw [E1.out, Bool.not_not]
  obtain ⟨q0, q1, q2⟩ := (Hat.out.below hb).c3
  have hB2 := HB.out.trans (hb.mono HB.out.size)
  cases hs : Sp.ok 0 10000 ⟨lo, hi⟩
  · rw [hs] at E2
    go_wp2_with fail
    go_ret
    exact ⟨by rw [E2.out]; rfl, hB2⟩
  · rw [hs] at E2
    go_wp2_with fail
    refine (from_any _ _ _ _).mono ?_
    rintro e w3 ⟨rfl, rfl⟩
    go_wp2_with fail
    go_ret
    exact ⟨by rw [E2.out]; simp, hB2⟩
end Go.Proofs.Ytkmocikcohhdoaa
namespace Go.Proofs.Ytkmocikcohhdoaa
open Go.RowKit Go.Shelf
attribute [local go_sem] ite_min ite_max
def SrcPost (ys : List Yr) (ps : List Sp) (w : World) (e : Ending) (w' : World) : Prop :=
  e = .returned (.tuple #[.agg #[.int .i64 (srcV ys ps).lo, .int .i64 (srcV ys ps).hi], .int .i64 (srcErr ys ps)]) ∧ Below w.heap.size w w'
theorem srcE (ys : List Yr) (ps : List Sp) (h : yearsOk ys ps = false) : srcV ys ps = ⟨0, 0⟩ ∧ srcErr ys ps = 22 := by simp [srcV, srcErr, h]

theorem any_bad (ys : List Yr) : ys.any Yr.bad = !(ys.all Yr.ok) := by
  induction ys with
  | nil => rfl
  | cons y ys ih => simp [Yr.bad, ih]
theorem anyBad_all (m : Int) (ps : List Sp) : anyBad m ps = !(ps.all (Sp.ok 0 m)) := by
  induction ps with
  | nil => rfl
  | cons y ys ih => simp only [anyBad, List.any_cons, List.all_cons, Bool.not_and] at *; rw [ih, spOk_bad]; simp
set_option maxHeartbeats 4000000 in
set_option maxRecDepth 100000 in
theorem source_any (A A' : Option Addr) (ys : List Yr) (ps : List Sp) (n c n' c' : Nat) (w : World) (hn : n = ys.length) (hm : n ≤ 9223372036854775807) (hx : Rd w w.heap.size Yr.cells A ys)
    (hn' : n' = ps.length) (hm' : n' ≤ 9223372036854775807) (hx' : Rd w w.heap.size Sp.cells A' ps) :
    Calls Try.prog 19 #[.slice A n c, .slice A' n' c'] w (SrcPost ys ps w) := by
  have hb0 := below_new w (.cells #[.int .i64 0, .int .i64 0] 24)
  obtain ⟨w0, Hw0⟩ : ∃ w0, Hid (w.alloc (.cells #[.int .i64 0, .int .i64 0] 24) = w0) := ⟨_, hide rfl⟩
  have hat : At w0 w.heap.size [.int .i64 0, .int .i64 0] := by rw [← Hw0.out]; exact At.new w _ _ _ rfl _ rfl
  have hfz : ∀ j : Nat, w0.frozen? ⟨w.heap.size, j, none⟩ = false := fun j => by rw [← Hw0.out]; exact At.frozen_new w _ _ _ rfl j
  have hz0 : w.heap.size < w0.heap.size := hat.1
  rw [Hw0.out] at hb0
  have Hn := hide hn; have Hx := hide hx; have Hn' := hide hn'; have Hx' := hide hx'
  clear hn hx hn' hx'
  obtain ⟨q0, q1⟩ := hat.c2
  have y0 := hfz 0
  have y1 := hfz 1
  by_cases h1 : n ≤ 12
  · by_cases h2 : n' ≤ 12
    · cases h3 : ys.all Yr.ok
      · have he := srcE ys ps (by simp [yearsOk, h3])
        have Hc := hide (containsfunc_Yr 58 #[] Yr.bad A ys n c w0 Hn.out hm enters_src1 ((Hx.out.below hb0).more hb0.size) (fun lo hi wt w' _ _ => src1_any lo hi wt w'))
        have Ht := hide (show ys.any Yr.bad = true by rw [any_bad, h3]; rfl)
        have He := hide he
        clear h3 he
        go_enter Try.func19, Try.ntmps19
        go_wp2_with fail
        rw [Hw0.out]
        refine Hc.out.mono ?_
        rintro e w1 ⟨rfl, hb1⟩
        rw [Ht.out]
        obtain ⟨p0, p1⟩ := (hat.below hb1).c2
        have g0 := (hb1.frozen (p := ⟨w.heap.size, 0, none⟩) hz0).trans y0
        have g1 := (hb1.frozen (p := ⟨w.heap.size, 1, none⟩) hz0).trans y1
        have hBW := hb0.trans (hb1.mono hb0.size)
        go_wp2_with fail
        obtain ⟨k0, k1⟩ := two_set w1 w.heap.size (.int .i64 0) (.int .i64 0) p0 p1
        exact bodyPost_ret (v := .tuple #[.agg #[.int .i64 0, .int .i64 0], .int .i64 22]) (by simp [results, Try.results19, go_sem, k0, k1]; try rfl) rfl ⟨by rw [He.out.1, He.out.2], ((hBW.setCell (Nat.le_refl _) _).setCell (Nat.le_refl _) _)⟩
      · have Hc := hide (containsfunc_Yr 58 #[] Yr.bad A ys n c w0 Hn.out hm enters_src1 ((Hx.out.below hb0).more hb0.size) (fun lo hi wt w' _ _ => src1_any lo hi wt w'))
        have Ht := hide (show ys.any Yr.bad = false by rw [any_bad, h3]; rfl)
        cases h4 : ps.all (Sp.ok 0 1000000)
        · have he := srcE ys ps (by simp [yearsOk, h4])
          have Ht2 := hide (show anyBad 1000000 ps = true by rw [anyBad_all, h4]; rfl)
          have He := hide he
          clear h3 h4 he
          go_enter Try.func19, Try.ntmps19
          go_wp2_with fail
          rw [Hw0.out]
          refine Hc.out.mono ?_
          rintro e w1 ⟨rfl, hb1⟩
          rw [Ht.out]
          have hB1 := hb0.trans (hb1.mono hb0.size)
          go_wp2_with fail
          refine (proper_any 1000000 A' ps n' c' w1 Hn'.out hm' ((Hx'.out.below hB1).more hB1.size)).mono ?_
          rintro e w2 ⟨rfl, hb2⟩
          rw [Ht2.out]
          have hb02 := hb1.trans (hb2.mono hb1.size)
          obtain ⟨p0, p1⟩ := (hat.below hb02).c2
          have g0 := (hb02.frozen (p := ⟨w.heap.size, 0, none⟩) hz0).trans y0
          have g1 := (hb02.frozen (p := ⟨w.heap.size, 1, none⟩) hz0).trans y1
          have hBW := hb0.trans (hb02.mono hb0.size)
          go_wp2_with fail
          obtain ⟨k0, k1⟩ := two_set w2 w.heap.size (.int .i64 0) (.int .i64 0) p0 p1
          exact bodyPost_ret (v := .tuple #[.agg #[.int .i64 0, .int .i64 0], .int .i64 22]) (by simp [results, Try.results19, go_sem, k0, k1]; try rfl) rfl ⟨by rw [He.out.1, He.out.2], ((hBW.setCell (Nat.le_refl _) _).setCell (Nat.le_refl _) _)⟩
        · have hok : yearsOk ys ps = true := by simp [yearsOk, h3, h4]; have := Hn.out; have := Hn'.out; omega
          have he : srcV ys ps = srcS ys ps ∧ srcErr ys ps = 0 := by simp [srcV, srcErr, hok]
          have Ht2 := hide (show anyBad 1000000 ps = false by rw [anyBad_all, h4]; rfl)
          have He := hide he
          obtain ⟨hl1, hl2, ho1, ho2⟩ := yearsOk_parts hok
          have hr := rain_bd ho1
          have hk := tak_bd ho2
          have hT1 := fun W hW => total_Yr 62 (fun y => ⟨y.fell.lo * y.weight, y.fell.hi * y.weight⟩) A ys n c W Hn.out h1 enters_src2 hW (fun x hx => by
            have := Yr.ok_bd (ho1 x hx)
            exact ⟨mul_bd (x := 10000) (y := 1000000) (by omega) (by omega) (by omega) (by omega), mul_bd (x := 10000) (y := 1000000) (by omega) (by omega) (by omega) (by omega)⟩) (fun lo hi wt w' hm _ => src2_any lo hi wt w' (ho1 _ hm))
          have hT2 := fun W hW => total_Sp 64 id A' ps n' c' W Hn'.out h2 enters_src3 hW (fun x hx => by
            have := Sp.ok_bd (ho2 x hx)
            simp only [id]; omega) (fun lo hi w' hm _ => src3_any lo hi w')
          have HT1 := hide hT1; have HT2 := hide hT2
          clear h3 h4 he hT1 hT2 ho1 ho2 hok
          go_enter Try.func19, Try.ntmps19
          go_wp2_with fail
          rw [Hw0.out]
          refine Hc.out.mono ?_
          rintro e w1 ⟨rfl, hb1⟩
          rw [Ht.out]
          have hB1 := hb0.trans (hb1.mono hb0.size)
          go_wp2_with fail
          refine (proper_any 1000000 A' ps n' c' w1 Hn'.out hm' ((Hx'.out.below hB1).more hB1.size)).mono ?_
          rintro e w2 ⟨rfl, hb2⟩
          rw [Ht2.out]
          have hb02 := hb1.trans (hb2.mono hb1.size)
          have hB2 := hb0.trans (hb02.mono hb0.size)
          go_wp2_with fail
          refine (HT1.out w2 ((Hx.out.below hB2).more hB2.size)).mono ?_
          rintro e w3 ⟨rfl, hb3⟩
          have hR1 : (List.map (fun x => ({ lo := x.fell.lo * x.weight, hi := x.fell.hi * x.weight } : Sp).lo) ys).sum = rainL ys := rfl
          have hR2 : (List.map (fun x => ({ lo := x.fell.lo * x.weight, hi := x.fell.hi * x.weight } : Sp).hi) ys).sum = rainH ys := rfl
          rw [hR1, hR2]
          clear hR1 hR2
          have hb03 := hb02.trans (hb3.mono hb02.size)
          have hB3 := hb0.trans (hb03.mono hb0.size)
          go_wp2_with fail
          refine calls_gen fun w4 Hw4 => ?_
          have hb4 : Below w3.heap.size w3 w4 := by rw [← Hw4.out]; exact below_new _ _
          have ha4 : At w4 w3.heap.size [.int .i64 (rainL ys), .int .i64 (rainH ys)] := by rw [← Hw4.out]; exact At.new w3 _ _ _ rfl _ rfl
          have hb04 := hb03.trans (hb4.mono hb03.size)
          have hB4 := hb0.trans (hb04.mono hb0.size)
          refine (HT2.out w4 ((Hx'.out.below hB4).more hB4.size)).mono ?_
          rintro e w5 ⟨rfl, hb5⟩
          have hR1 : (List.map (fun x => (id x : Sp).lo) ps).sum = takL ps := rfl
          have hR2 : (List.map (fun x => (id x : Sp).hi) ps).sum = takH ps := rfl
          rw [hR1, hR2]
          clear hR1 hR2
          have hb05 := hb04.trans (hb5.mono hb04.size)
          have hB5 := hb0.trans (hb05.mono hb0.size)
          have ha5 := ha4.below hb5
          have hz5 : w3.heap.size < w5.heap.size := ha5.1
          obtain ⟨r0, r1⟩ := ha5.c2
          obtain ⟨a, ha⟩ : ∃ a, a = rainL ys := ⟨_, rfl⟩
          obtain ⟨b, hb⟩ : ∃ b, b = rainH ys := ⟨_, rfl⟩
          obtain ⟨x, hx⟩ : ∃ x, x = takL ps := ⟨_, rfl⟩
          obtain ⟨y, hy⟩ : ∃ y, y = takH ps := ⟨_, rfl⟩
          rw [← ha] at r0 hr
          rw [← hb] at r1 hr
          rw [← hx, ← hy] at hk ⊢
          have Hl1 : (ys.length : Int) ≤ 12 := by omega
          have Hl2 : (ps.length : Int) ≤ 12 := by omega
          have v1 : IntKind.i64.wrap (1000 * y) = 1000 * y := wrapI (by omega)
          have v2 : IntKind.i64.wrap (1000 * x) = 1000 * x := wrapI (by omega)
          have v3 : IntKind.i64.wrap (a - 1000 * y) = a - 1000 * y := wrapI (by omega)
          have v4 : IntKind.i64.wrap (b - 1000 * x) = b - 1000 * x := wrapI (by omega)
          have Ha := hide ha; have Hb := hide hb; have HX := hide hx; have HY := hide hy
          have b1 : -1000000000000 ≤ a - 1000 * y ∧ a - 1000 * y ≤ 1000000000000 := by omega
          have b2 : -1000000000000 ≤ b - 1000 * x ∧ b - 1000 * x ≤ 1000000000000 := by omega
          clear ha hb hx hy ha4 hr hk Hl1 Hl2 hl1 hl2
          go_wp2_with fail
          refine calls_gen fun w6 Hw6 => ?_
          have hb6 : Below w5.heap.size w5 w6 := by rw [← Hw6.out]; exact below_new _ _
          refine (whole_any _ _ w6 b1 b2).mono ?_
          rintro e w7 ⟨rfl, hb7⟩
          have hb07 := (hb05.trans (hb6.mono hb05.size)).trans (hb7.mono (hb05.trans (hb6.mono hb05.size)).size)
          have hbx : Bx w7 w.heap.size [.int .i64 0, .int .i64 0] := ⟨hat.below hb07, fun j => (hb07.frozen (p := ⟨w.heap.size, j, none⟩) hz0).trans (hfz j)⟩
          have hBW := hb0.trans (hb07.mono hb0.size)
          have hz7 : w.heap.size < w7.heap.size := (hat.below hb07).1
          clear r0 r1 ha5 v1 v2 v3 v4 b1 b2
          go_wp2_with fail
          obtain ⟨b9, w8, eb9, ew8, hx8, hb8, hz8⟩ := mk_bx w7 #[.int .i64 (flK (a - 1000 * y)), .int .i64 (-flK (-(b - 1000 * x)))] 24
          rw [ew8.out, eb9.out]
          have hne8 : b9 ≠ w.heap.size := by have := eb9.out; omega
          replace hbx := hbx.bel hb8
          refine wp_region_held_drew (S := (fun W => Kept (fun b => b ≠ w.heap.size) w8 W)) (by kernel_rfl) (by (try dsimp only); exact Kept.all _ (Below.refl _ _).drew) (fun hHeld => ?_)
          have hdr : Below w8.heap.size w8 (World.drew w8) := (Below.refl _ _).drew
          generalize World.drew w8 = Wd8 at hHeld hdr ⊢
          have hbx := hbx.bel hdr
          have hbc := Below.refl Wd8.heap.size Wd8
          refine wpAnyH_take (i := 0) (oi := ⟨_, _, _, _, _, _⟩) (v := ?_) rfl (by kernel_rfl) (by kernel_rfl) (by kernel_rfl) (fun _ _ _ h => h) (Or.inl ⟨by rfl, ?_⟩) hHeld ?_
          rotate_left
          · (intro w hSw; (try dsimp only at hSw); go_simp; try (with_reducible rfl))
          try simp only [Act.put, List.setIfInBounds_toArray, List.set_cons_zero, List.set_cons_succ]
          refine wpAnyH_take (i := 1) (oi := ⟨_, _, _, _, _, _⟩) (v := ?_) rfl (by kernel_rfl) (by kernel_rfl) (by kernel_rfl) (fun _ _ _ h => h) (Or.inl ⟨by rfl, ?_⟩) hHeld ?_
          rotate_left
          · (intro w hSw; (try dsimp only at hSw); go_simp; try (with_reducible rfl))
          try simp only [Act.put, List.setIfInBounds_toArray, List.set_cons_zero, List.set_cons_succ]
          refine wpAnyH_take (i := 2) (oi := ⟨_, _, _, _, _, _⟩) (v := ?_) rfl (by kernel_rfl) (by kernel_rfl) (by kernel_rfl) (fun _ _ _ h => h) (Or.inl ⟨by rfl, ?_⟩) hHeld ?_
          rotate_left
          · (intro w hSw; (try dsimp only at hSw); obtain ⟨t0, t1, _, _⟩ := (hx8.kept hSw hne8).w2; go_simp; try (with_reducible rfl))
          try simp only [Act.put, List.setIfInBounds_toArray, List.set_cons_zero, List.set_cons_succ]
          refine wpAnyH_take (i := 4) (oi := ⟨_, _, _, _, _, _⟩) (v := ?_) rfl (by kernel_rfl) (by kernel_rfl) (by kernel_rfl) (fun _ _ _ h => h) (Or.inl ⟨by rfl, ?_⟩) hHeld ?_
          rotate_left
          · (intro w hSw; (try dsimp only at hSw); go_simp; try (with_reducible rfl))
          try simp only [Act.put, List.setIfInBounds_toArray, List.set_cons_zero, List.set_cons_succ]
          refine wpAnyH_take (i := 5) (oi := ⟨_, _, _, _, _, _⟩) (v := ?_) rfl (by kernel_rfl) (by kernel_rfl) (by kernel_rfl) (fun _ _ _ h => h) (Or.inl ⟨by rfl, ?_⟩) hHeld ?_
          rotate_left
          · (intro w hSw; (try dsimp only at hSw); go_simp; try (with_reducible rfl))
          try simp only [Act.put, List.setIfInBounds_toArray, List.set_cons_zero, List.set_cons_succ]
          refine wpAnyH_take (i := 6) (oi := ⟨_, _, _, _, _, _⟩) (v := ?_) rfl (by kernel_rfl) (by kernel_rfl) (by kernel_rfl) (fun _ _ _ h => h) (Or.inl ⟨by rfl, ?_⟩) hHeld ?_
          rotate_left
          · (intro w hSw; (try dsimp only at hSw); obtain ⟨t0, t1, _, _⟩ := (hx8.kept hSw hne8).w2; go_simp; try (with_reducible rfl))
          try simp only [Act.put, List.setIfInBounds_toArray, List.set_cons_zero, List.set_cons_succ]
          refine wpAnyH_ready (rs := [3]) (by kernel_rfl) (by simp) ?_
          refine AllReadyH.cons (o := ⟨_, _, _, _, _, _⟩) rfl (fun K hK => ?_) AllReadyH.nil
          go_simp
          refine (src4_any _ _).mono ?_
          rintro e V51 ⟨rfl, hb⟩
          go_wp2_with fail
          have hHeldN := hHeld.trans (Kept.all _ hb)
          have hbx := hbx.bel hb
          have hbc := hbc.trans (hb.mono hbc.size)
          refine hK.out _ _ ?_ (fun hHeld2 => ?_)
          · exact hHeldN
          clear hK K hHeld hHeldN hb; have hHeld := hHeld2; clear hHeld2
          try simp only [Act.put, List.setIfInBounds_toArray, List.set_cons_zero, List.set_cons_succ]
          refine wpAnyH_ready (rs := [7]) (by kernel_rfl) (by simp) ?_
          refine AllReadyH.cons (o := ⟨_, _, _, _, _, _⟩) rfl (fun K hK => ?_) AllReadyH.nil
          go_simp
          refine (src4_any _ _).mono ?_
          rintro e V55 ⟨rfl, hb⟩
          go_wp2_with fail
          have hHeldN := hHeld.trans (Kept.all _ hb)
          have hbx := hbx.bel hb
          have hbc := hbc.trans (hb.mono hbc.size)
          refine hK.out _ _ ?_ (fun hHeld2 => ?_)
          · exact hHeldN
          clear hK K hHeld hHeldN hb; have hHeld := hHeld2; clear hHeld2
          try simp only [Act.put, List.setIfInBounds_toArray, List.set_cons_zero, List.set_cons_succ]
          refine wpAnyH_take (i := 8) (oi := ⟨_, _, _, _, _, _⟩) (v := ?_) rfl (by kernel_rfl) (by kernel_rfl) (by kernel_rfl) (fun _ _ _ h => h) (Or.inl ⟨by rfl, ?_⟩) hHeld ?_
          rotate_left
          · (intro w hSw; (try dsimp only at hSw); go_simp; try (with_reducible rfl))
          try simp only [Act.put, List.setIfInBounds_toArray, List.set_cons_zero, List.set_cons_succ]
          refine wpAnyH_ready (rs := [9]) (by kernel_rfl) (by simp) ?_
          refine AllReadyH.cons (o := ⟨_, _, _, _, _, _⟩) rfl (fun K hK => ?_) AllReadyH.nil
          obtain ⟨p0, p1, g0, g1⟩ := hbx.w2
          obtain ⟨k0, k1⟩ := two_set V55 w.heap.size (.int .i64 (clip (flK (a - 1000 * y)))) (.int .i64 (clip (-flK (-(b - 1000 * x))))) p0 p1
          go_simp
          have hf := hHeld.trans ((Kept.setCell V55 ⟨w.heap.size, 0, none⟩ (.int .i64 (clip (flK (a - 1000 * y))))).trans (Kept.setCell (V55.setCell ⟨w.heap.size, 0, none⟩ (.int .i64 (clip (flK (a - 1000 * y))))) ⟨w.heap.size, 1, none⟩ (.int .i64 (clip (-flK (-(b - 1000 * x)))))))
          refine hK.out _ _ ?_ (fun hHeld2 => ?_)
          · (try dsimp only); exact hf
          clear hK K hHeld; have hHeld := hHeld2; clear hHeld2
          try simp only [Act.put, List.setIfInBounds_toArray, List.set_cons_zero, List.set_cons_succ]
          refine wpAnyH_take (i := 10) (oi := ⟨_, _, _, _, _, _⟩) (v := ?_) rfl (by kernel_rfl) (by kernel_rfl) (by kernel_rfl) (fun _ _ _ h => h) (Or.inl ⟨by rfl, ?_⟩) hHeld ?_
          rotate_left
          · (intro w hSw; (try dsimp only at hSw); go_simp; try (with_reducible rfl))
          try simp only [Act.put, List.setIfInBounds_toArray, List.set_cons_zero, List.set_cons_succ]
          refine wpAnyH_done (by kernel_rfl) ?_ _
          go_wp2_with fail
          refine bodyPost_ret (v := .tuple #[.agg #[.int .i64 (clip (flK (a - 1000 * y))), .int .i64 (clip (-flK (-(b - 1000 * x))))], .int .i64 0]) (by simp [results, Try.results19, go_sem, k0, k1]; try rfl) rfl ⟨?_, ?_⟩
          · rw [He.out.1, He.out.2, Ha.out, Hb.out, HX.out, HY.out]; rfl
          · have hB8 := hBW.trans (hb8.mono hBW.size)
            exact hB8.trans (hf.below (fun b hb => by omega) hB8.size)
    · have He := hide (srcE ys ps (by have := Hn.out; have := Hn'.out; simp [yearsOk]; omega))
      go_enter Try.func19, Try.ntmps19
      go_wp2_with fail
      exact bodyPost_ret (v := .tuple #[.agg #[.int .i64 0, .int .i64 0], .int .i64 22]) (by simp [results, Try.results19, go_sem]; try rfl) rfl ⟨by rw [He.out.1, He.out.2], below_new _ _⟩
  · have He := hide (srcE ys ps (by have := Hn.out; have := Hn'.out; simp [yearsOk]; omega))
    go_enter Try.func19, Try.ntmps19
    go_wp2_with fail
    exact bodyPost_ret (v := .tuple #[.agg #[.int .i64 0, .int .i64 0], .int .i64 22]) (by simp [results, Try.results19, go_sem]; try rfl) rfl ⟨by rw [He.out.1, He.out.2], below_new _ _⟩
end Go.Proofs.Ytkmocikcohhdoaa
namespace Go.Proofs.Ytkmocikcohhdoaa
open Go.RowKit Go.Shelf
attribute [local go_sem] ite_min ite_max
theorem all_miss {α : Type} {p : α → Bool} {xs : List α} {k : Nat} {x : α} (hx : xs[k]? = some x) (h : p x = false) : xs.all p = false := by
  rw [Bool.eq_false_iff]; intro ha; have := List.all_eq_true.1 ha x (List.mem_of_getElem? hx); rw [h] at this; cases this
theorem pre_t {α : Type} {p : α → Bool} {xs : List α} {k : Nat} {x : α} (hx : xs[k]? = some x) (h : p x = true) (hp : ∀ y ∈ xs.take k, p y = true) : ∀ y ∈ xs.take (k + 1), p y = true := by
  intro y hy
  rw [take_snoc hx] at hy
  rcases List.mem_append.1 hy with hy | hy
  · exact hp y hy
  · simp at hy; subst hy; exact h
theorem all_done {α : Type} {p : α → Bool} {xs : List α} {k : Nat} (hk : xs.length ≤ k) (hp : ∀ y ∈ xs.take k, p y = true) : xs.all p = true := by
  rw [List.take_of_length_le hk] at hp
  exact List.all_eq_true.2 hp
theorem rdown_any (a : Int) (w : World) (h : -1000000000000 ≤ a ∧ a ≤ 1000000000000) : Calls Try.prog 67 #[.int .i64 a] w fun e w' => e = .returned (.int .i64 (flK a)) ∧ w = w' := by
  have e1 := flK_down a
  have b1 : -1000000000000 ≤ a.tdiv 1000 ∧ a.tdiv 1000 ≤ 1000000000000 := by
    have e2 := flK_tdiv a
    have : flK a = a / 1000 := rfl
    rw [this] at e2; split at e2 <;> omega
  by_cases hn : a < 0
  · have b2 : 0 ≤ (999 - a).tdiv 1000 ∧ (999 - a).tdiv 1000 ≤ 1000000000000 := by rw [Int.tdiv_eq_ediv_of_nonneg (by omega)]; omega
    have w1 : IntKind.i64.wrap (999 - a) = 999 - a := wrapI (by omega)
    have w2 : IntKind.i64.wrap ((999 - a).tdiv 1000) = (999 - a).tdiv 1000 := wrapI (by omega)
    have w3 : IntKind.i64.wrap (-((999 - a).tdiv 1000)) = -((999 - a).tdiv 1000) := wrapI (by omega)
    rw [if_pos hn] at e1
    have E1 := hide e1
    clear e1 b1 b2
    go_enter Try.func67, Try.ntmps67
    go_wp2
    go_ret
    exact ⟨ret_int (by rw [E1.out]; try rfl), rfl⟩
  · rw [if_neg hn] at e1
    have w1 : IntKind.i64.wrap (a.tdiv 1000) = a.tdiv 1000 := wrapI (by omega)
    have E1 := hide e1
    clear e1 b1
    go_enter Try.func67, Try.ntmps67
    go_wp2
    go_ret
    exact ⟨ret_int (by rw [E1.out]; try rfl), rfl⟩
set_option maxHeartbeats 4000000 in
theorem years_any (A A' : Option Addr) (ys : List Yr) (ps : List Sp) (n c n' c' : Nat) (w : World) (hn : n = ys.length) (hm : n ≤ 9223372036854775807) (hx : Rd w w.heap.size Yr.cells A ys)
    (hn' : n' = ps.length) (hm' : n' ≤ 9223372036854775807) (hx' : Rd w w.heap.size Sp.cells A' ps) :
    Calls Try.prog 47 #[.slice A n c, .slice A' n' c'] w fun e w' => e = .returned (.bool (yearsOk ys ps)) ∧ Below w.heap.size w w' := by
  have Hn := hide hn; have Hx := hide hx; have Hn' := hide hn'; have Hx' := hide hx'
  clear hn hx hn' hx'
  by_cases h1 : n ≤ 12
  · by_cases h2 : n' ≤ 12
    · go_enter Try.func47, Try.ntmps47
      go_wp2_with fail
      go_loopw [5] (fun i wr => ∃ k : Nat, k ≤ n ∧ i = .int .i64 k ∧ Below w.heap.size w wr ∧ Hid (∀ y ∈ ys.take k, y.ok = true)) (fun i _ => n - (intOf i).toNat)
      case atStart => exact ⟨0, by omega, rfl, Below.refl _ _, hide (by simp)⟩
      case round =>
        obtain ⟨k, hk, rfl, hb, hpre⟩ := hrel
        by_cases hlt : k < n
        · obtain ⟨b, off, lo, hi, wt, rfl, hB, hxk, c0, c1, c2⟩ := (Hx.out.below hb).yr (i := k) (by have := Hn.out; omega)
          have Hxk := hide hxk; clear hxk
          have hok : Yr.ok ⟨⟨lo, hi⟩, wt⟩ = (Sp.ok 0 10000 ⟨lo, hi⟩ && inB 0 1000000 wt) := rfl
          have Hok := hide hok; clear hok
          have c2k := fun W (hW : Below wr.heap.size wr W) => (hW.cell (p := ⟨b, off + k * 3 + 2, none⟩) (by have := hb.size; show b < _; omega)).trans c2
          go_wp2_with fail
          refine (spanned_any _ _ _ _ _).mono ?_
          rintro e w1 ⟨rfl, hb1⟩
          have c2 := c2k w1 hb1
          have hB1 := hb.trans (hb1.mono hb.size)
          clear c2k
          cases hs : Sp.ok 0 10000 ⟨lo, hi⟩
          · rw [hs] at Hok
            have Hr := hide (show yearsOk ys ps = false by simp [yearsOk, all_miss Hxk.out (show Yr.ok ⟨⟨lo, hi⟩, wt⟩ = false by rw [Hok.out]; rfl)])
            clear hs
            go_wp2_with fail
            go_ret
            exact ⟨ret_bool Hr.out.symm, hB1⟩
          · rw [hs] at Hok
            clear hs
            go_wp2_with fail
            refine (within_any _ _ _ _).mono ?_
            rintro e w2 ⟨rfl, rfl⟩
            cases hs : inB 0 1000000 wt
            · rw [hs] at Hok
              have Hr := hide (show yearsOk ys ps = false by simp [yearsOk, all_miss Hxk.out (show Yr.ok ⟨⟨lo, hi⟩, wt⟩ = false by rw [Hok.out]; rfl)])
              clear hs
              go_wp2_with fail
              go_ret
              exact ⟨ret_bool Hr.out.symm, hB1⟩
            · rw [hs] at Hok
              clear hs
              go_wp2_with fail
              exact ⟨⟨k + 1, by omega, by go_num, hB1, hide (pre_t Hxk.out (by rw [Hok.out]; rfl) hpre.out)⟩, by simp [intOf]; omega⟩
        · obtain rfl : n = k := by omega
          have hall : ys.all Yr.ok = true := all_done (by rw [Hn.out]; exact Nat.le_refl _) hpre.out
          have Hall := hide hall
          clear hall
          go_wp2_with fail
          go_loopw [6] (fun i wr => ∃ k : Nat, k ≤ n' ∧ i = .int .i64 k ∧ Below w.heap.size w wr ∧ Hid (∀ y ∈ ps.take k, Sp.ok 0 1000000 y = true)) (fun i _ => n' - (intOf i).toNat)
          case atStart => exact ⟨0, by omega, rfl, hb, hide (by simp)⟩
          case round =>
            obtain ⟨k, hk, rfl, hb, hpre⟩ := hrel
            by_cases hlt : k < n'
            · obtain ⟨b, off, lo, hi, rfl, hB, hxk, c0, c1⟩ := (Hx'.out.below hb).sp (i := k) (by have := Hn'.out; omega)
              have Hxk := hide hxk; clear hxk
              go_wp2_with fail
              refine (spanned_any _ _ _ _ _).mono ?_
              rintro e w1 ⟨rfl, hb1⟩
              have hB1 := hb.trans (hb1.mono hb.size)
              cases hs : Sp.ok 0 1000000 ⟨lo, hi⟩
              · have Hr := hide (show yearsOk ys ps = false by simp [yearsOk, all_miss Hxk.out hs])
                clear hs
                go_wp2_with fail
                go_ret
                exact ⟨ret_bool Hr.out.symm, hB1⟩
              · have Hs := hide hs
                clear hs
                go_wp2_with fail
                exact ⟨⟨k + 1, by omega, by go_num, hB1, hide (pre_t Hxk.out Hs.out hpre.out)⟩, by simp [intOf]; omega⟩
            · have hall2 : ps.all (Sp.ok 0 1000000) = true := all_done (by rw [← Hn'.out]; omega) hpre.out
              have Hr := hide (show yearsOk ys ps = true by have := Hn.out; have := Hn'.out; simp [yearsOk, Hall.out, hall2]; omega)
              clear hall2
              go_wp2_with fail
              go_ret
              exact ⟨ret_bool Hr.out.symm, hb⟩
    · have Hr := hide (show yearsOk ys ps = false by have := Hn.out; have := Hn'.out; simp [yearsOk]; omega)
      go_enter Try.func47, Try.ntmps47
      go_wp2_with fail
      go_ret
      exact ⟨ret_bool Hr.out.symm, Below.refl _ _⟩
  · have Hr := hide (show yearsOk ys ps = false by have := Hn.out; have := Hn'.out; simp [yearsOk]; omega)
    go_enter Try.func47, Try.ntmps47
    go_wp2_with fail
    go_ret
    exact ⟨ret_bool Hr.out.symm, Below.refl _ _⟩
theorem sum_take {α : Type} (f : α → Int) {xs : List α} {k : Nat} {x : α} (h : xs[k]? = some x) : ((xs.take (k + 1)).map f).sum = ((xs.take k).map f).sum + f x := by rw [take_snoc h]; simp
set_option maxHeartbeats 4000000 in
set_option maxRecDepth 100000 in
theorem rsource_any (A A' : Option Addr) (ys : List Yr) (ps : List Sp) (n c n' c' : Nat) (w : World) (hn : n = ys.length) (hm : n ≤ 9223372036854775807) (hx : Rd w w.heap.size Yr.cells A ys)
    (hn' : n' = ps.length) (hm' : n' ≤ 9223372036854775807) (hx' : Rd w w.heap.size Sp.cells A' ps) :
    Calls Try.prog 20 #[.slice A n c, .slice A' n' c'] w (SrcPost ys ps w) := by
  have hb0 := below_new w (.cells #[.int .i64 0, .int .i64 0] 24)
  obtain ⟨w0, Hw0⟩ : ∃ w0, Hid (w.alloc (.cells #[.int .i64 0, .int .i64 0] 24) = w0) := ⟨_, hide rfl⟩
  have hbx : Bx w0 w.heap.size [.int .i64 0, .int .i64 0] := by rw [← Hw0.out]; exact Bx.new w _ _ _ rfl _ rfl
  rw [Hw0.out] at hb0
  have Hn := hide hn; have Hx := hide hx; have Hn' := hide hn'; have Hx' := hide hx'
  have HY := hide (years_any A A' ys ps n c n' c' w0 hn hm ((hx.below hb0).more hb0.size) hn' hm' ((hx'.below hb0).more hb0.size))
  clear hn hx hn' hx'
  cases hok : yearsOk ys ps
  · have He := hide (srcE ys ps hok)
    rw [hok] at HY
    clear hok
    go_enter Try.func20, Try.ntmps20
    go_wp2_with fail
    rw [Hw0.out]
    refine HY.out.mono ?_
    rintro e w1 ⟨rfl, hb1⟩
    obtain ⟨p0, p1, g0, g1⟩ := (hbx.bel hb1).w2
    have hBW := hb0.trans (hb1.mono hb0.size)
    go_wp2_with fail
    obtain ⟨k0, k1⟩ := two_set w1 w.heap.size (.int .i64 0) (.int .i64 0) p0 p1
    exact bodyPost_ret (v := .tuple #[.agg #[.int .i64 0, .int .i64 0], .int .i64 22]) (by simp [results, Try.results20, go_sem, k0, k1]; try rfl) rfl ⟨by rw [He.out.1, He.out.2], ((hBW.setCell (Nat.le_refl _) _).setCell (Nat.le_refl _) _)⟩
  · have He := hide (show srcV ys ps = srcS ys ps ∧ srcErr ys ps = 0 by simp [srcV, srcErr, hok])
    obtain ⟨hl1, hl2, ho1, ho2⟩ := yearsOk_parts hok
    have Ho1 := hide ho1; have Ho2 := hide ho2
    rw [hok] at HY
    have hln : n ≤ 12 := by rw [Hn.out]; exact hl1
    have hln' : n' ≤ 12 := by rw [Hn'.out]; exact hl2
    clear hok ho1 ho2 hl1 hl2
    go_enter Try.func20, Try.ntmps20
    go_wp2_with fail
    rw [Hw0.out]
    refine HY.out.mono ?_
    rintro e w1 ⟨rfl, hb1⟩
    replace hbx := hbx.bel hb1
    have hB1 := hb0.trans (hb1.mono hb0.size)
    have Hx1 := hide ((Hx.out.below hB1).more hB1.size)
    have Hx1' := hide ((Hx'.out.below hB1).more hB1.size)
    clear hb0 hb1 HY Hx Hx'
    go_wp2_with fail
    go_loopw [6, 7, 8] (fun a b i wr => ∃ k : Nat, k ≤ n ∧ i = .int .i64 k ∧ a = .int .i64 (rainL (ys.take k)) ∧ b = .int .i64 (rainH (ys.take k)) ∧ Below w1.heap.size w1 wr) (fun _ _ i _ => n - (intOf i).toNat)
    case atStart => exact ⟨0, by omega, rfl, rfl, rfl, Below.refl _ _⟩
    case round =>
      obtain ⟨k, hk, rfl, rfl, rfl, hb⟩ := hrel
      have hr := rain_bd (ys := ys.take k) fun y hy => Ho1.out y (List.mem_of_mem_take hy)
      have htl : ((ys.take k).length : Int) ≤ 12 := by rw [List.length_take]; have := Hn.out; omega
      by_cases hlt : k < n
      · obtain ⟨b, off, lo, hi, wt, rfl, hB, hxk, c0, c1, c2⟩ := (Hx1.out.below hb).yr (i := k) (by have := Hn.out; omega)
        have t1 : rainL (ys.take (k + 1)) = rainL (ys.take k) + lo * wt := sum_take _ hxk
        have t2 : rainH (ys.take (k + 1)) = rainH (ys.take k) + hi * wt := sum_take _ hxk
        obtain ⟨h1, h2, h3, h4, h5⟩ := Yr.ok_bd (Ho1.out _ (List.mem_of_getElem? hxk))
        simp only at h1 h2 h3 h4 h5
        have m1 := mul_bd (x := 10000) (y := 1000000) h1 (by omega) h4 h5
        have m2 := mul_bd (x := 10000) (y := 1000000) (show 0 ≤ hi by omega) h3 h4 h5
        obtain ⟨u, hu⟩ : ∃ u, u = rainL (ys.take k) := ⟨_, rfl⟩
        obtain ⟨v, hv⟩ : ∃ v, v = rainH (ys.take k) := ⟨_, rfl⟩
        rw [← hu] at hr t1 ⊢
        rw [← hv] at hr t2 ⊢
        have e1 : IntKind.i64.wrap (lo * wt) = lo * wt := wrapI (by omega)
        have e2 : IntKind.i64.wrap (hi * wt) = hi * wt := wrapI (by omega)
        have e3 : IntKind.i64.wrap (u + lo * wt) = u + lo * wt := wrapI (by omega)
        have e4 : IntKind.i64.wrap (v + hi * wt) = v + hi * wt := wrapI (by omega)
        have T1 := hide t1; have T2 := hide t2
        clear t1 t2 hu hv hr htl h1 h2 h3 h4 h5 m1 m2 hxk
        go_wp2_with fail
        go_region
        go_wp2_with fail
        go_region
        go_wp2_with fail
        exact ⟨⟨k + 1, by omega, by go_num, by rw [T1.out], by rw [T2.out], hb.drew.drew⟩, by simp [intOf]; omega⟩
      · obtain rfl : n = k := by omega
        have ey : ys.take n = ys := List.take_of_length_le (by rw [← Hn.out]; exact Nat.le_refl _)
        rw [ey] at hr ⊢
        have hyl : (ys.length : Int) ≤ 12 := by rw [← Hn.out]; omega
        obtain ⟨X, hX⟩ : ∃ X, X = rainL ys := ⟨_, rfl⟩
        obtain ⟨Y, hY⟩ : ∃ Y, Y = rainH ys := ⟨_, rfl⟩
        rw [← hX, ← hY] at hr ⊢
        have HX := hide hX; have HY := hide hY
        have hrX : 0 ≤ X ∧ X ≤ 120000000000 ∧ 0 ≤ Y ∧ Y ≤ 120000000000 := by omega
        have hbw := hb
        clear hX hY ey htl hr hyl
        go_wp2_with fail
        go_loopw [6, 7, 9] (fun a b i wr => ∃ k : Nat, k ≤ n' ∧ i = .int .i64 k ∧ a = .int .i64 (X - 1000 * takH (ps.take k)) ∧ b = .int .i64 (Y - 1000 * takL (ps.take k)) ∧ Below w1.heap.size w1 wr) (fun _ _ i _ => n' - (intOf i).toNat)
        case atStart => exact ⟨0, by omega, rfl, by simp [takH], by simp [takL], hbw⟩
        case round =>
          obtain ⟨k, hk, rfl, rfl, rfl, hb⟩ := hrel
          have hr := tak_bd (ps := ps.take k) fun y hy => Ho2.out y (List.mem_of_mem_take hy)
          have htl : ((ps.take k).length : Int) ≤ 12 := by rw [List.length_take]; have := Hn'.out; omega
          by_cases hlt : k < n'
          · obtain ⟨b, off, lo, hi, rfl, hB, hxk, c0, c1⟩ := (Hx1'.out.below hb).sp (i := k) (by have := Hn'.out; omega)
            have t1 : takL (ps.take (k + 1)) = takL (ps.take k) + lo := sum_take _ hxk
            have t2 : takH (ps.take (k + 1)) = takH (ps.take k) + hi := sum_take _ hxk
            have h1 := Sp.ok_bd (Ho2.out _ (List.mem_of_getElem? hxk))
            simp only at h1
            obtain ⟨u, hu⟩ : ∃ u, u = takL (ps.take k) := ⟨_, rfl⟩
            obtain ⟨v, hv⟩ : ∃ v, v = takH (ps.take k) := ⟨_, rfl⟩
            rw [← hu] at hr t1 ⊢
            rw [← hv] at hr t2 ⊢
            have e1 : IntKind.i64.wrap (1000 * lo) = 1000 * lo := wrapI (by omega)
            have e2 : IntKind.i64.wrap (1000 * hi) = 1000 * hi := wrapI (by omega)
            have e3 : IntKind.i64.wrap (X - 1000 * v - 1000 * hi) = X - 1000 * v - 1000 * hi := wrapI (by omega)
            have e4 : IntKind.i64.wrap (Y - 1000 * u - 1000 * lo) = Y - 1000 * u - 1000 * lo := wrapI (by omega)
            have e5 : X - 1000 * v - 1000 * hi = X - 1000 * (v + hi) := by omega
            have e6 : Y - 1000 * u - 1000 * lo = Y - 1000 * (u + lo) := by omega
            have T1 := hide t1; have T2 := hide t2; have E5 := hide e5; have E6 := hide e6
            clear t1 t2 hu hv hr htl h1 hxk e5 e6
            go_wp2_with fail
            exact ⟨⟨k + 1, by omega, by go_num, by rw [T2.out, E5.out], by rw [T1.out, E6.out], hb⟩, by simp [intOf]; omega⟩
          · obtain rfl : n' = k := by omega
            have ey : ps.take n' = ps := List.take_of_length_le (by rw [← Hn'.out]; exact Nat.le_refl _)
            rw [ey] at hr ⊢
            have hyl : (ps.length : Int) ≤ 12 := by rw [← Hn'.out]; omega
            obtain ⟨x, hx⟩ : ∃ x, x = X - 1000 * takH ps := ⟨_, rfl⟩
            obtain ⟨y, hy⟩ : ∃ y, y = Y - 1000 * takL ps := ⟨_, rfl⟩
            rw [← hx, ← hy]
            have b1 : -1000000000000 ≤ x ∧ x ≤ 1000000000000 := by omega
            have b2 : -1000000000000 ≤ -y ∧ -y ≤ 1000000000000 := by omega
            have b3 : IntKind.i64.wrap (-y) = -y := wrapI (by omega)
            obtain ⟨z, hz⟩ : ∃ z, z = -flK (-y) := ⟨_, rfl⟩
            have b4 : IntKind.i64.wrap (-flK (-y)) = z := by rw [hz]; exact wrapI (by have : flK (-y) = -y / 1000 := rfl; omega)
            have Hz := hide hz
            have Hx3 := hide hx; have Hy3 := hide hy
            obtain ⟨p0, p1, g0, g1⟩ := (hbx.bel hb).w2
            have hBW := hB1.trans (hb.mono hB1.size)
            clear hx hy hz ey hr htl hyl
            go_wp2_with fail
            refine (rdown_any x _ b1).mono ?_
            rintro e w3 ⟨rfl, rfl⟩
            go_wp2_with fail
            refine (rdown_any (-y) _ b2).mono ?_
            rintro e w3 ⟨rfl, rfl⟩
            go_wp2_with fail
            obtain ⟨k0, k1⟩ := two_set wr w.heap.size (.int .i64 (min 1000000 (max 0 (flK x)))) (.int .i64 (min 1000000 (max 0 z))) p0 p1
            refine bodyPost_ret (v := .tuple #[.agg #[.int .i64 (min 1000000 (max 0 (flK x))), .int .i64 (min 1000000 (max 0 z))], .int .i64 0]) (by simp [results, Try.results20, go_sem, k0, k1]; try rfl) rfl ⟨?_, (hBW.setCell (Nat.le_refl _) _).setCell (Nat.le_refl _) _⟩
            have c1 : clip (flK x) = min 1000000 (max 0 (flK x)) := by simp only [clip]; omega
            have c2 : clip z = min 1000000 (max 0 z) := by simp only [clip]; omega
            rw [He.out.1, He.out.2, ← c1, ← c2, Hz.out, Hx3.out, Hy3.out, HX.out, HY.out]
            rfl
end Go.Proofs.Ytkmocikcohhdoaa
