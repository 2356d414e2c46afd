/- Channel, outright: span, use, garden and day: the chapter's examples as they lie in memory. -/
import Derived.Test.YtgklcilpohkpkaaC7
set_option linter.unusedVariables false
set_option linter.unusedSimpArgs false
namespace Go.Proofs.Ytgklcilpohkpkaa
open Go.RowKit Go.Shelf
attribute [local go_sem ↓] Go.wp_at_zero Go.wp_at_succ
def gcs : List Ca := [⟨0, ⟨100, 200⟩, ⟨50, 60⟩⟩, ⟨1, ⟨0, 0⟩, ⟨10, 10⟩⟩, ⟨1, ⟨500, 500⟩, ⟨0, 0⟩⟩]
def gfs : List Int := [2, 3]
def dayL : List Us := [⟨0, 0, 60⟩, ⟨1, 60, 90⟩, ⟨0, 200, 230⟩]
theorem Rd.set {α : Type} {cells : α → List Value} {w : World} {B b off : Nat} {xs : List α} (h : Rd w B cells (some ⟨b, off, none⟩) xs) {p : Addr} (hne : b ≠ p.block) (u : Value) : Rd (w.setCell p u) B cells (some ⟨b, off, none⟩) xs := fun hn => by
  obtain ⟨b', off', e, hB, hc⟩ := h hn
  injection e with e
  injection e with e1 e2
  subst e1 e2
  exact ⟨b, off, rfl, hB, fun j v hv => (World.cell?_setCell_far _ _ _ _ (Ne.symm hne)).trans (hc j v hv)⟩
theorem span_any (lo hi : Int) (w : World) : Calls Try.prog 37 #[.int .i64 lo, .int .i64 hi] w fun e w' => e = .returned (.agg #[.int .i64 lo, .int .i64 hi]) ∧ Below w.heap.size w w' := by
  go_enter Try.func37, Try.ntmps37
  go_wp2
  exact bodyPost_ret (by simp [results, Try.results37, go_sem]; try rfl) rfl ⟨rfl, below_new _ _⟩
theorem use_any (f a b : Int) (w : World) : Calls Try.prog 39 #[.int .i64 f, .int .i64 a, .int .i64 b] w fun e w' => e = .returned (.agg #[.int .i64 f, .int .i64 a, .int .i64 b]) ∧ Below w.heap.size w w' := by
  go_enter Try.func39, Try.ntmps39
  go_wp2
  exact bodyPost_ret (by simp [results, Try.results39, go_sem]; try rfl) rfl ⟨rfl, below_new _ _⟩
set_option maxHeartbeats 4000000 in
set_option maxRecDepth 100000 in
theorem garden_any (w : World) : Calls Try.prog 38 #[] w fun e w' => ∃ Ac Af, e = .returned (.agg #[.slice Ac 3 3, .slice Af 2 2, .int .i64 30, .int .i64 1]) ∧ NetAt w' Ac Af 3 2 gcs gfs ∧ Below w.heap.size w w' := by
  obtain ⟨w0, Hw0⟩ : ∃ w0, Hid (w.alloc (.cells #[.slice none 0 0, .slice none 0 0, .int .i64 0, .int .i64 0] 25) = w0) := ⟨_, hide rfl⟩
  have hA : At w0 w.heap.size [.slice none 0 0, .slice none 0 0, .int .i64 0, .int .i64 0] := by rw [← Hw0.out]; exact At.new w _ _ _ rfl _ rfl
  have hF : ∀ j : Nat, w0.frozen? ⟨w.heap.size, j, none⟩ = false := fun j => by rw [← Hw0.out]; exact At.frozen_new w _ _ w.heap.size rfl j
  have hB : Below w.heap.size w w0 := by rw [← Hw0.out]; exact below_new _ _
  go_enter Try.func38, Try.ntmps38
  go_wp2_with fail
  rw [Hw0.out]
  refine (span_any _ _ _).mono ?_
  rintro e w1 ⟨rfl, h1⟩
  go_wp2_with fail
  refine (span_any _ _ _).mono ?_
  rintro e w2 ⟨rfl, h2⟩
  go_wp2_with fail
  refine (span_any _ _ _).mono ?_
  rintro e w3 ⟨rfl, h3⟩
  go_wp2_with fail
  refine (span_any _ _ _).mono ?_
  rintro e w4 ⟨rfl, h4⟩
  have hb2 := h1.trans (h2.mono h1.size)
  have hb3 := hb2.trans (h3.mono hb2.size)
  have hb4 := hb3.trans (h4.mono hb3.size)
  have hb5 := below_new w4 (.cells #[.int .i64 0, .int .i64 100, .int .i64 200, .int .i64 50, .int .i64 60, .int .i64 1, .int .i64 0, .int .i64 0, .int .i64 10, .int .i64 10, .int .i64 1, .int .i64 500, .int .i64 500, .int .i64 0, .int .i64 0] 83)
  have hb6 := below_new (w4.alloc (.cells #[.int .i64 0, .int .i64 100, .int .i64 200, .int .i64 50, .int .i64 60, .int .i64 1, .int .i64 0, .int .i64 0, .int .i64 10, .int .i64 10, .int .i64 1, .int .i64 500, .int .i64 500, .int .i64 0, .int .i64 0] 83)) (.cells #[.int .i64 2, .int .i64 3] 3)
  have hr1 := Rd.new (cells := Ca.cells) w4 #[.int .i64 0, .int .i64 100, .int .i64 200, .int .i64 50, .int .i64 60, .int .i64 1, .int .i64 0, .int .i64 0, .int .i64 10, .int .i64 10, .int .i64 1, .int .i64 500, .int .i64 500, .int .i64 0, .int .i64 0] 83 gcs rfl
  have hr2 := Rd.new (cells := icell) (w4.alloc (.cells #[.int .i64 0, .int .i64 100, .int .i64 200, .int .i64 50, .int .i64 60, .int .i64 1, .int .i64 0, .int .i64 0, .int .i64 10, .int .i64 10, .int .i64 1, .int .i64 500, .int .i64 500, .int .i64 0, .int .i64 0] 83)) #[.int .i64 2, .int .i64 3] 3 gfs rfl
  have hb7 := (hb4.trans (hb5.mono hb4.size)).trans (hb6.mono (hb4.trans (hb5.mono hb4.size)).size)
  have hB7 := hB.trans (hb7.mono hB.size)
  have hA7 := hA.below hb7
  have hF7 := fun j : Nat => (hb7.frozen (p := ⟨w.heap.size, j, none⟩) hA.1).trans (hF j)
  have hr1' := (hr1.below ((below_new (w4.alloc (.cells #[.int .i64 0, .int .i64 100, .int .i64 200, .int .i64 50, .int .i64 60, .int .i64 1, .int .i64 0, .int .i64 0, .int .i64 10, .int .i64 10, .int .i64 1, .int .i64 500, .int .i64 500, .int .i64 0, .int .i64 0] 83)) (.cells #[.int .i64 2, .int .i64 3] 3)).mono (by simp)))
  have hlt : w.heap.size < w4.heap.size := Nat.lt_of_lt_of_le hA.1 hb4.size
  have hs5 : (w4.alloc (.cells #[.int .i64 0, .int .i64 100, .int .i64 200, .int .i64 50, .int .i64 60, .int .i64 1, .int .i64 0, .int .i64 0, .int .i64 10, .int .i64 10, .int .i64 1, .int .i64 500, .int .i64 500, .int .i64 0, .int .i64 0] 83)).heap.size = w4.heap.size + 1 := by simp
  rw [hs5] at hr2
  have hs7 : ((w4.alloc (.cells #[.int .i64 0, .int .i64 100, .int .i64 200, .int .i64 50, .int .i64 60, .int .i64 1, .int .i64 0, .int .i64 0, .int .i64 10, .int .i64 10, .int .i64 1, .int .i64 500, .int .i64 500, .int .i64 0, .int .i64 0] 83)).alloc (.cells #[.int .i64 2, .int .i64 3] 3)).heap.size = w4.heap.size + 1 + 1 := by simp
  obtain ⟨z0, z1, z2, z3⟩ := hA7.c4
  have y0 := hF7 0
  have y1 := hF7 1
  have y2 := hF7 2
  have y3 := hF7 3
  have hset := (((hA7.set (j := 0) (.slice (some ⟨w4.heap.size, 0, none⟩) 3 3) (by simp)).set (j := 1) (.slice (some ⟨w4.heap.size + 1, 0, none⟩) 2 2) (by simp)).set (j := 2) (.int .i64 30) (by simp)).set (j := 3) (.int .i64 1) (by simp)
  simp only [List.set_cons_zero, List.set_cons_succ] at hset
  obtain ⟨k0, k1, k2, k3⟩ := hset.c4
  have Hr1 := hide hr1'; have Hr2 := hide hr2; have Hs7 := hide hs7; have HlT := hide hlt; have HB7 := hide hB7
  clear hr1 hr2 hr1' hs7 hs5 hA hF hB h1 h2 h3 h4 hb2 hb3 hb4 hb5 hb6 hb7 hA7 hF7 hB7 hlt hset
  go_wp2_with fail
  refine bodyPost_ret (v := .agg #[.slice (some ⟨w4.heap.size, 0, none⟩) 3 3, .slice (some ⟨w4.heap.size + 1, 0, none⟩) 2 2, .int .i64 30, .int .i64 1]) (by simp [results, Try.results38, go_sem, k0, k1, k2, k3]; try rfl) rfl ⟨_, _, rfl, ?_, ?_⟩
  · have hne1 : w4.heap.size ≠ w.heap.size := by have := HlT.out; omega
    have hne2 : w4.heap.size + 1 ≠ w.heap.size := by have := HlT.out; omega
    refine ⟨?_, ?_, rfl, rfl, by omega, by omega⟩
    · exact ((((Hr1.out.set (p := ⟨w.heap.size, 0, none⟩) hne1 _).set (p := ⟨w.heap.size, 1, none⟩) hne1 _).set (p := ⟨w.heap.size, 2, none⟩) hne1 _).set (p := ⟨w.heap.size, 3, none⟩) hne1 _).more (by simp [World.setCell])
    · exact ((((Hr2.out.set (p := ⟨w.heap.size, 0, none⟩) hne2 _).set (p := ⟨w.heap.size, 1, none⟩) hne2 _).set (p := ⟨w.heap.size, 2, none⟩) hne2 _).set (p := ⟨w.heap.size, 3, none⟩) hne2 _).more (by simp [World.setCell])
  · exact (((HB7.out.setCell (p := ⟨w.heap.size, 0, none⟩) (Nat.le_refl _) _).setCell (p := ⟨w.heap.size, 1, none⟩) (Nat.le_refl _) _).setCell (p := ⟨w.heap.size, 2, none⟩) (Nat.le_refl _) _).setCell (p := ⟨w.heap.size, 3, none⟩) (Nat.le_refl _) _
set_option maxHeartbeats 1000000 in
theorem day_any (w : World) : Calls Try.prog 82 #[] w fun e w' => ∃ Au, e = .returned (.slice Au 3 3) ∧ Rd w' w'.heap.size Us.cells Au dayL ∧ Below w.heap.size w w' := by
  go_enter Try.func82, Try.ntmps82
  go_wp2_with fail
  refine (use_any _ _ _ _).mono ?_
  rintro e w1 ⟨rfl, h1⟩
  go_wp2_with fail
  refine (use_any _ _ _ _).mono ?_
  rintro e w2 ⟨rfl, h2⟩
  go_wp2_with fail
  refine (use_any _ _ _ _).mono ?_
  rintro e w3 ⟨rfl, h3⟩
  have hb2 := h1.trans (h2.mono h1.size)
  have hb3 := hb2.trans (h3.mono hb2.size)
  have hr := Rd.new (cells := Us.cells) w3 #[.int .i64 0, .int .i64 0, .int .i64 60, .int .i64 1, .int .i64 60, .int .i64 90, .int .i64 0, .int .i64 200, .int .i64 230] 74 dayL rfl
  have hb4 := hb3.trans ((below_new w3 (.cells #[.int .i64 0, .int .i64 0, .int .i64 60, .int .i64 1, .int .i64 60, .int .i64 90, .int .i64 0, .int .i64 200, .int .i64 230] 74)).mono hb3.size)
  go_wp2_with fail
  go_ret
  exact ⟨_, rfl, hr.more (by simp), hb4⟩
end Go.Proofs.Ytgklcilpohkpkaa
