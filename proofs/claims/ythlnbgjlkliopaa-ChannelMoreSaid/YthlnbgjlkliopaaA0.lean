/- Helpers of the outright laws: Minutes answers one number; the chapter examples as they lie in memory and what the plain functions yield there; rows and boxes that are made. -/
import Derived.Test.YthlnbgjlkliopaaW8
import Derived.Test.YthlnbgjlkliopaaC7
import Derived.Test.YthlnbgjlkliopaaC10
import Derived.Test.YthlnbgjlkliopaaC12
import Derived.Test.YthlnbgjlkliopaaO6
import Derived.Test.YthlnbgjlkliopaaR1
import Derived.Test.YthlnbgjlkliopaaApp
set_option linter.unusedVariables false
set_option linter.unusedSimpArgs false
namespace Go.Proofs.Ythlnbgjlkliopaa
open Go.RowKit Go.Shelf
end Go.Proofs.Ythlnbgjlkliopaa
namespace Go.Proofs.Ythlnbgjlkliopaa
open Go.RowKit Go.Shelf
attribute [local go_sem ↓] Go.wp_at_zero Go.wp_at_succ
def gcs : List Ca := [⟨0, ⟨100, 200⟩, ⟨50, 60⟩⟩, ⟨1, ⟨0, 0⟩, ⟨10, 10⟩⟩, ⟨1, ⟨500, 500⟩, ⟨0, 0⟩⟩]
def gfs : List Int := [2, 3]
def dayL : List Us := [⟨0, 0, 60⟩, ⟨1, 60, 90⟩, ⟨0, 200, 230⟩]
theorem Rd.set {α : Type} {cells : α → List Value} {w : World} {B b off : Nat} {xs : List α} (h : Rd w B cells (some ⟨b, off, none⟩) xs) {p : Addr} (hne : b ≠ p.block) (u : Value) : Rd (w.setCell p u) B cells (some ⟨b, off, none⟩) xs := fun hn => by
  obtain ⟨b', off', e, hB, hc⟩ := h hn
  injection e with e
  injection e with e1 e2
  subst e1 e2
  exact ⟨b, off, rfl, hB, fun j v hv => (World.cell?_setCell_far _ _ _ _ (Ne.symm hne)).trans (hc j v hv)⟩
theorem span_any (lo hi : Int) (w : World) : Calls Try.prog 9 #[.int .i64 lo, .int .i64 hi] w fun e w' => e = .returned (.agg #[.int .i64 lo, .int .i64 hi]) ∧ Below w.heap.size w w' := by
  go_enter Try.func9, Try.ntmps9
  go_wp2
  exact bodyPost_ret (by simp [results, Try.results9, go_sem]; try rfl) rfl ⟨rfl, below_new _ _⟩
theorem use_any (f a b : Int) (w : World) : Calls Try.prog 34 #[.int .i64 f, .int .i64 a, .int .i64 b] w fun e w' => e = .returned (.agg #[.int .i64 f, .int .i64 a, .int .i64 b]) ∧ Below w.heap.size w w' := by
  go_enter Try.func34, Try.ntmps34
  go_wp2
  exact bodyPost_ret (by simp [results, Try.results34, go_sem]; try rfl) rfl ⟨rfl, below_new _ _⟩
set_option maxHeartbeats 4000000 in
set_option maxRecDepth 100000 in
theorem garden_any (w : World) : Calls Try.prog 12 #[] w fun e w' => ∃ Ac Af, e = .returned (.agg #[.slice Ac 3 3, .slice Af 2 2, .int .i64 30, .int .i64 1]) ∧ NetAt w' Ac Af 3 2 gcs gfs ∧ Below w.heap.size w w' := by
  obtain ⟨w0, Hw0⟩ : ∃ w0, Hid (w.alloc (.cells #[.slice none 0 0, .slice none 0 0, .int .i64 0, .int .i64 0] 25) = w0) := ⟨_, hide rfl⟩
  have hA : At w0 w.heap.size [.slice none 0 0, .slice none 0 0, .int .i64 0, .int .i64 0] := by rw [← Hw0.out]; exact At.new w _ _ _ rfl _ rfl
  have hF : ∀ j : Nat, w0.frozen? ⟨w.heap.size, j, none⟩ = false := fun j => by rw [← Hw0.out]; exact At.frozen_new w _ _ w.heap.size rfl j
  have hB : Below w.heap.size w w0 := by rw [← Hw0.out]; exact below_new _ _
  go_enter Try.func12, Try.ntmps12
  go_wp2_with fail
  rw [Hw0.out]
  refine (span_any _ _ _).mono ?_
  rintro e w1 ⟨rfl, h1⟩
  go_wp2_with fail
  refine (span_any _ _ _).mono ?_
  rintro e w2 ⟨rfl, h2⟩
  go_wp2_with fail
  refine (span_any _ _ _).mono ?_
  rintro e w3 ⟨rfl, h3⟩
  go_wp2_with fail
  refine (span_any _ _ _).mono ?_
  rintro e w4 ⟨rfl, h4⟩
  have hb2 := h1.trans (h2.mono h1.size)
  have hb3 := hb2.trans (h3.mono hb2.size)
  have hb4 := hb3.trans (h4.mono hb3.size)
  have hb5 := below_new w4 (.cells #[.int .i64 0, .int .i64 100, .int .i64 200, .int .i64 50, .int .i64 60, .int .i64 1, .int .i64 0, .int .i64 0, .int .i64 10, .int .i64 10, .int .i64 1, .int .i64 500, .int .i64 500, .int .i64 0, .int .i64 0] 38)
  have hb6 := below_new (w4.alloc (.cells #[.int .i64 0, .int .i64 100, .int .i64 200, .int .i64 50, .int .i64 60, .int .i64 1, .int .i64 0, .int .i64 0, .int .i64 10, .int .i64 10, .int .i64 1, .int .i64 500, .int .i64 500, .int .i64 0, .int .i64 0] 38)) (.cells #[.int .i64 2, .int .i64 3] 3)
  have hr1 := Rd.new (cells := Ca.cells) w4 #[.int .i64 0, .int .i64 100, .int .i64 200, .int .i64 50, .int .i64 60, .int .i64 1, .int .i64 0, .int .i64 0, .int .i64 10, .int .i64 10, .int .i64 1, .int .i64 500, .int .i64 500, .int .i64 0, .int .i64 0] 38 gcs rfl
  have hr2 := Rd.new (cells := icell) (w4.alloc (.cells #[.int .i64 0, .int .i64 100, .int .i64 200, .int .i64 50, .int .i64 60, .int .i64 1, .int .i64 0, .int .i64 0, .int .i64 10, .int .i64 10, .int .i64 1, .int .i64 500, .int .i64 500, .int .i64 0, .int .i64 0] 38)) #[.int .i64 2, .int .i64 3] 3 gfs rfl
  have hb7 := (hb4.trans (hb5.mono hb4.size)).trans (hb6.mono (hb4.trans (hb5.mono hb4.size)).size)
  have hB7 := hB.trans (hb7.mono hB.size)
  have hA7 := hA.below hb7
  have hF7 := fun j : Nat => (hb7.frozen (p := ⟨w.heap.size, j, none⟩) hA.1).trans (hF j)
  have hr1' := (hr1.below ((below_new (w4.alloc (.cells #[.int .i64 0, .int .i64 100, .int .i64 200, .int .i64 50, .int .i64 60, .int .i64 1, .int .i64 0, .int .i64 0, .int .i64 10, .int .i64 10, .int .i64 1, .int .i64 500, .int .i64 500, .int .i64 0, .int .i64 0] 38)) (.cells #[.int .i64 2, .int .i64 3] 3)).mono (by simp)))
  have hlt : w.heap.size < w4.heap.size := Nat.lt_of_lt_of_le hA.1 hb4.size
  have hs5 : (w4.alloc (.cells #[.int .i64 0, .int .i64 100, .int .i64 200, .int .i64 50, .int .i64 60, .int .i64 1, .int .i64 0, .int .i64 0, .int .i64 10, .int .i64 10, .int .i64 1, .int .i64 500, .int .i64 500, .int .i64 0, .int .i64 0] 38)).heap.size = w4.heap.size + 1 := by simp
  rw [hs5] at hr2
  have hs7 : ((w4.alloc (.cells #[.int .i64 0, .int .i64 100, .int .i64 200, .int .i64 50, .int .i64 60, .int .i64 1, .int .i64 0, .int .i64 0, .int .i64 10, .int .i64 10, .int .i64 1, .int .i64 500, .int .i64 500, .int .i64 0, .int .i64 0] 38)).alloc (.cells #[.int .i64 2, .int .i64 3] 3)).heap.size = w4.heap.size + 1 + 1 := by simp
  obtain ⟨z0, z1, z2, z3⟩ := hA7.c4
  have y0 := hF7 0
  have y1 := hF7 1
  have y2 := hF7 2
  have y3 := hF7 3
  have hset := (((hA7.set (j := 0) (.slice (some ⟨w4.heap.size, 0, none⟩) 3 3) (by simp)).set (j := 1) (.slice (some ⟨w4.heap.size + 1, 0, none⟩) 2 2) (by simp)).set (j := 2) (.int .i64 30) (by simp)).set (j := 3) (.int .i64 1) (by simp)
  simp only [List.set_cons_zero, List.set_cons_succ] at hset
  obtain ⟨k0, k1, k2, k3⟩ := hset.c4
  have Hr1 := hide hr1'; have Hr2 := hide hr2; have Hs7 := hide hs7; have HlT := hide hlt; have HB7 := hide hB7
  clear hr1 hr2 hr1' hs7 hs5 hA hF hB h1 h2 h3 h4 hb2 hb3 hb4 hb5 hb6 hb7 hA7 hF7 hB7 hlt hset
  go_wp2_with fail
  refine bodyPost_ret (v := .agg #[.slice (some ⟨w4.heap.size, 0, none⟩) 3 3, .slice (some ⟨w4.heap.size + 1, 0, none⟩) 2 2, .int .i64 30, .int .i64 1]) (by simp [results, Try.results12, go_sem, k0, k1, k2, k3]; try rfl) rfl ⟨_, _, rfl, ?_, ?_⟩
  · have hne1 : w4.heap.size ≠ w.heap.size := by have := HlT.out; omega
    have hne2 : w4.heap.size + 1 ≠ w.heap.size := by have := HlT.out; omega
    refine ⟨?_, ?_, rfl, rfl, by omega, by omega⟩
    · exact ((((Hr1.out.set (p := ⟨w.heap.size, 0, none⟩) hne1 _).set (p := ⟨w.heap.size, 1, none⟩) hne1 _).set (p := ⟨w.heap.size, 2, none⟩) hne1 _).set (p := ⟨w.heap.size, 3, none⟩) hne1 _).more (by simp [World.setCell])
    · exact ((((Hr2.out.set (p := ⟨w.heap.size, 0, none⟩) hne2 _).set (p := ⟨w.heap.size, 1, none⟩) hne2 _).set (p := ⟨w.heap.size, 2, none⟩) hne2 _).set (p := ⟨w.heap.size, 3, none⟩) hne2 _).more (by simp [World.setCell])
  · exact (((HB7.out.setCell (p := ⟨w.heap.size, 0, none⟩) (Nat.le_refl _) _).setCell (p := ⟨w.heap.size, 1, none⟩) (Nat.le_refl _) _).setCell (p := ⟨w.heap.size, 2, none⟩) (Nat.le_refl _) _).setCell (p := ⟨w.heap.size, 3, none⟩) (Nat.le_refl _) _
set_option maxHeartbeats 1000000 in
theorem day_any (w : World) : Calls Try.prog 15 #[] w fun e w' => ∃ Au, e = .returned (.slice Au 3 3) ∧ Rd w' w'.heap.size Us.cells Au dayL ∧ Below w.heap.size w w' := by
  go_enter Try.func15, Try.ntmps15
  go_wp2_with fail
  refine (use_any _ _ _ _).mono ?_
  rintro e w1 ⟨rfl, h1⟩
  go_wp2_with fail
  refine (use_any _ _ _ _).mono ?_
  rintro e w2 ⟨rfl, h2⟩
  go_wp2_with fail
  refine (use_any _ _ _ _).mono ?_
  rintro e w3 ⟨rfl, h3⟩
  have hb2 := h1.trans (h2.mono h1.size)
  have hb3 := hb2.trans (h3.mono hb2.size)
  have hr := Rd.new (cells := Us.cells) w3 #[.int .i64 0, .int .i64 0, .int .i64 60, .int .i64 1, .int .i64 60, .int .i64 90, .int .i64 0, .int .i64 200, .int .i64 230] 47 dayL rfl
  have hb4 := hb3.trans ((below_new w3 (.cells #[.int .i64 0, .int .i64 0, .int .i64 60, .int .i64 1, .int .i64 60, .int .i64 90, .int .i64 0, .int .i64 200, .int .i64 230] 47)).mono hb3.size)
  go_wp2_with fail
  go_ret
  exact ⟨_, rfl, hr.more (by simp), hb4⟩
end Go.Proofs.Ythlnbgjlkliopaa
namespace Go.Proofs.Ythlnbgjlkliopaa
theorem gar_ok : netOk gcs gfs 30 1 = true := by decide
theorem gar_path : pathS gcs gfs 30 1 1 = ([0, 2], 0) := by decide
theorem gar_path2 : pathS gcs gfs 30 1 2 = ([], 2) := by decide
theorem gar_moves : movesS gcs gfs 30 1 0 1 = ([1], [2], 0) := by decide
theorem gar_moves2 : movesS gcs gfs 30 1 0 (-1) = ([], [], 2) := by decide
theorem gar_dries : driesS gcs gfs 30 1 dayL = ([[0, 1], [2], [0, 1]], 0) := by decide
theorem gar_dries2 : driesS gcs gfs 30 1 [⟨0, 5, 5⟩] = ([], 51) := by decide
theorem gar_waters : watersS gcs gfs 30 1 10 12 dayL = (([⟨604, 862⟩, ⟨120, 162⟩], [⟨210, 384⟩, ⟨20, 20⟩, ⟨120, 162⟩]), 0) := by decide
theorem gar_waters2 : watersS gcs gfs 30 1 2 1 [] = (([], []), 21) := by decide
theorem gar_waters3 : watersS gcs gfs 30 1 10 12 [⟨2, 0, 1⟩] = (([], []), 51) := by decide
set_option maxRecDepth 10000 in
theorem gar_order : orderS gcs gfs 30 1 10 12 [0, 1, 0] [30, 60, 30] = (([1, 0, 2], 686), 0) := by decide
theorem gar_order2 : (orderS gcs gfs 30 1 10 12 (List.replicate 7 0) []).2 = 4 := by decide
theorem gar_order3 : (orderS gcs gfs 30 1 10 12 [0] []).2 = 52 := by decide
theorem gar_min1 {r e : Int} (h : minutesP gcs gfs 30 1 10 12 0 423 r e) : r = 61 ∧ e = 0 := minutesP_one h (by unfold minutesP leastB; decide)
theorem gar_min2 {r e : Int} (h : minutesP gcs gfs 30 1 10 12 0 422 r e) : r = 60 ∧ e = 0 := minutesP_one h (by unfold minutesP leastB; decide)
theorem gar_min3 {r e : Int} (h : minutesP gcs gfs 30 1 10 12 0 (-1) r e) : e = 2 := (minutesP_one h (r' := 0) (e' := 2) (by unfold minutesP leastB; decide)).2
theorem gar_min4 {r e : Int} (h : minutesP gcs gfs 30 1 10 12 0 1000000000000 r e) : e = 6 := (minutesP_one h (r' := 0) (e' := 6) (by unfold minutesP leastB; decide)).2
end Go.Proofs.Ythlnbgjlkliopaa
namespace Go.Proofs.Ythlnbgjlkliopaa
open Go.RowKit Go.Shelf
attribute [local go_sem ↓] Go.wp_at_zero Go.wp_at_succ
theorem mk_box (W : World) (cs : Array Value) (t : TypeId) :
    ∃ (b : Nat) (V : World), Hid (W.heap.size = b) ∧ Hid (W.alloc (.cells cs t) = V) ∧ At V b cs.toList ∧ (∀ j : Nat, V.frozen? ⟨b, j, none⟩ = false) ∧ Below W.heap.size W V :=
  ⟨_, _, hide rfl, hide rfl, At.new W cs t _ rfl _ rfl, fun j => At.frozen_new W cs t _ rfl j, below_new _ _⟩
theorem NetAt.bel {w w' : World} {Ac Af : Option Addr} {nc nf : Nat} {cs : List Ca} {fs : List Int} (h : NetAt w Ac Af nc nf cs fs) (hb : Below w.heap.size w w') : NetAt w' Ac Af nc nf cs fs := h.below hb
theorem Rows.bel {α : Type} {w w' : World} {cells : α → List Value} {ss : List Sl} {xss : List (List α)} (h : Rows w w.heap.size cells ss xss) (hb : Below w.heap.size w w') : Rows w' w'.heap.size cells ss xss := (h.below hb).more hb.size
theorem Rd.newb {α : Type} {cells : α → List Value} (W : World) (cs : Array Value) (t : TypeId) (xs : List α) (h : cs.toList = xs.flatMap cells) : Rd (W.alloc (.cells cs t)) (W.alloc (.cells cs t)).heap.size cells (some ⟨W.heap.size, 0, none⟩) xs := (Rd.new W cs t xs h).more (by simp)
theorem Rows.lit {w : World} {cells : Int → List Value} {ss : List Sl} {xss : List (List Int)} (hl : ss.length = xss.length) (h : ∀ (i : Nat) (s : Sl) (xs : List Int), ss[i]? = some s → xss[i]? = some xs → s.n = xs.length ∧ Rd w w.heap.size cells s.a xs) : Rows w w.heap.size cells ss xss := ⟨hl, h⟩

set_option maxHeartbeats 2000000 in
/-- aflaj/aflajref01.SameSpans: whether two lists are one. -/
theorem same_Sp (A B : Option Addr) (xs ys : List Sp) (n c m d : Nat) (w : World) (hn : n = xs.length) (hm : m = ys.length) (hn' : n ≤ 9223372036854775807) (hm' : m ≤ 9223372036854775807)
    (hx : Rd w w.heap.size Sp.cells A xs) (hy : Rd w w.heap.size Sp.cells B ys) :
    Calls Try.prog 20 #[.slice A n c, .slice B m d] w fun e w' => e = .returned (.bool (decide (xs = ys))) ∧ Below w.heap.size w w' := by
  have Hn := hide hn; have Hm := hide hm; have Hx := hide hx; have Hy := hide hy
  clear hn hm hx hy
  by_cases hnm : n = m
  · subst hnm
    go_enter Try.func20, Try.ntmps20
    go_wp2_with fail
    go_loopw [4, 5] (fun v i wr => ∃ k : Nat, k ≤ n ∧ i = .int .i64 k ∧ Below w.heap.size w wr ∧ Hid (xs.take k = ys.take k)) (fun _ i _ => n - (intOf i).toNat)
    case atStart => exact ⟨0, by omega, rfl, Below.refl _ _, hide (by simp)⟩
    case round =>
      obtain ⟨k, hk, rfl, hb, hpre⟩ := hrel
      by_cases hlt : k < n
      · obtain ⟨b, off, lox, hix, rfl, hB, hxk, hcx0, hcx1⟩ := (Hx.out.below hb).sp (i := k) (by have := Hn.out; omega)
        have Hxk := hide hxk; clear hxk
        obtain ⟨b', off', loy, hiy, rfl, hB', hyk, hcy0, hcy1⟩ := (Hy.out.below hb).sp (i := k) (by have := Hm.out; omega)
        have Hyk := hide hyk; clear hyk
        by_cases e0 : lox = loy
        · subst e0
          by_cases e1 : hix = hiy
          · subst e1
            go_wp2_with fail
            go_quiet (fail)
            go_wp2_with fail
            exact ⟨⟨k + 1, by omega, by go_num, below_drewN hb _, hide (eqL_snoc Hxk.out Hyk.out rfl hpre.out)⟩, by simp [intOf]; omega⟩
          · have h1 : (hix == hiy) = false := by simpa using e1
            have h2 : (hix != hiy) = true := by simpa using e1
            have H0 := hide e1; clear e1
            go_wp2_with fail
            go_quiet (fail)
            go_wp2_with fail
            go_ret
            exact ⟨ret_bool (by have := eqL_stop Hxk.out Hyk.out (by have := H0.out; simp [this]); simp [this]), below_drewN hb _⟩
        · have h1 : (lox == loy) = false := by simpa using e0
          have h2 : (lox != loy) = true := by simpa using e0
          have H0 := hide e0; clear e0
          go_wp2_with fail
          go_quiet (fail)
          go_wp2_with fail
          go_ret
          exact ⟨ret_bool (by have := eqL_stop Hxk.out Hyk.out (by have := H0.out; simp [this]); simp [this]), below_drewN hb _⟩
      · go_wp2_with fail
        go_ret
        refine ⟨ret_bool ?_, hb⟩
        have h1 := hpre.out
        rw [List.take_of_length_le (by have := Hn.out; omega), List.take_of_length_le (by have := Hm.out; omega)] at h1
        simp [h1]
  · have h1 : ((n : Int) == (m : Int)) = false := by simp; omega
    have h2 : ((n : Int) != (m : Int)) = true := by simp; omega
    have Hnm := hide hnm; clear hnm
    go_enter Try.func20, Try.ntmps20
    go_wp2_with fail
    go_ret
    refine ⟨ret_bool ?_, Below.refl _ _⟩
    have h3 : xs ≠ ys := by
      rintro rfl
      exact Hnm.out (Hn.out.trans Hm.out.symm)
    simp [h3]

theorem sSpans (A B : Option Addr) (xs : List Sp) (n c m d : Nat) (w : World) (hx : Rd w w.heap.size Sp.cells A xs) (hy : Rd w w.heap.size Sp.cells B xs) (hn : n = xs.length) (hm : m = xs.length) (hl : xs.length ≤ 1000) :
    Calls Try.prog 20 #[.slice A n c, .slice B m d] w fun e w' => e = .returned (.bool true) ∧ Below w.heap.size w w' :=
  (same_Sp A B xs xs _ c _ d w hn hm (by omega) (by omega) hx hy).mono fun e w' h => ⟨by simpa using h.1, h.2⟩
theorem sInts (A B : Option Addr) (xs : List Int) (n c m d : Nat) (w : World) (hx : Rd w w.heap.size icell A xs) (hy : Rd w w.heap.size icell B xs) (hn : n = xs.length) (hm : m = xs.length) (hl : xs.length ≤ 1000) :
    Calls Try.prog 18 #[.slice A n c, .slice B m d] w fun e w' => e = .returned (.bool true) ∧ Below w.heap.size w w' :=
  (same_int A B xs xs _ c _ d w hn hm (by omega) (by omega) hx hy).mono fun e w' h => ⟨by simpa using h.1, h.2⟩
end Go.Proofs.Ythlnbgjlkliopaa
