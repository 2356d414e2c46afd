/- Salt: the salt after one cycle, by contracts. -/
import Derived.Test.YtmbhnjpaieimbaaS4
import Derived.Test.YtmbhnjpaieimbaaRange2
import Derived.Handy
set_option linter.unusedVariables false
set_option linter.unusedSimpArgs false
namespace Go.Proofs.Ytmbhnjpaieimbaa
open Go.RowKit Go.Shelf
attribute [local go_sem] ite_min ite_max
def turnsF (s : So) (w : Sp) : List Int := [w.lo, w.hi, min (max s.crop w.lo) w.hi]
def endC (h : Bool) (s : So) (w : Sp) : Int := roundF h (max 0 (outF h ((turnsF s w).map (saltedF h s))))
def cycleF (s : So) (w : Sp) : Sp := ⟨endC false s w, endC true s w⟩

/-- What the body of after finds in memory. -/
structure Aft (w W : World) (cs : List Value) (ts : List Int) : Prop where
  so : At W w.heap.size cs
  sl : At W (w.heap.size + 1 + 1 + 1 + 1) [.slice (some ⟨w.heap.size + 1 + 1 + 1, 0, none⟩) 3 3]
  rd : Rd W W.heap.size icell (some ⟨w.heap.size + 1 + 1 + 1, 0, none⟩) ts
  rc : At W (w.heap.size + 1 + 1) [.int .i64 0, .int .i64 0]
  fz : ∀ j : Nat, W.frozen? ⟨w.heap.size + 1 + 1, j, none⟩ = false
  bl : Below w.heap.size w W
theorem Aft.keep {w W W' : World} {cs : List Value} {ts : List Int} (h : Aft w W cs ts) (hb : Below W.heap.size W W') : Aft w W' cs ts :=
  ⟨h.so.below hb, h.sl.below hb, (h.rd.below hb).more hb.size, h.rc.below hb, fun j => (hb.frozen (p := ⟨_, j, none⟩) h.rc.1).trans (h.fz j), h.bl.trans (hb.mono h.bl.size)⟩
set_option maxHeartbeats 8000000 in
set_option maxRecDepth 100000 in
theorem after_any (a0 a1 li cr m0 m1 w0 w1 r0 r1 lo hi : Int) (w : World) (hf : So.fit 100000000000000 ⟨⟨a0, a1⟩, li, cr, ⟨m0, m1⟩, ⟨w0, w1⟩, ⟨r0, r1⟩⟩) (hlo : 0 ≤ lo) (hh : lo ≤ hi) (hhi : hi ≤ 1000000000) :
    Calls Try.prog 90 #[.agg #[.int .i64 a0, .int .i64 a1, .int .i64 li, .int .i64 cr, .int .i64 m0, .int .i64 m1, .int .i64 w0, .int .i64 w1, .int .i64 r0, .int .i64 r1], .agg #[.int .i64 lo, .int .i64 hi]] w fun e w' => e = .returned (.agg #[.int .i64 (cycleF ⟨⟨a0, a1⟩, li, cr, ⟨m0, m1⟩, ⟨w0, w1⟩, ⟨r0, r1⟩⟩ ⟨lo, hi⟩).lo, .int .i64 (cycleF ⟨⟨a0, a1⟩, li, cr, ⟨m0, m1⟩, ⟨w0, w1⟩, ⟨r0, r1⟩⟩ ⟨lo, hi⟩).hi]) ∧ Below w.heap.size w w' := by
  have Hf := hide hf; clear hf
  go_enter Try.func90, Try.ntmps90
  go_wp2_with fail
  obtain ⟨mi, hmi⟩ : ∃ mi, mi = min (max cr lo) hi := ⟨_, rfl⟩
  rw [← hmi]
  have hml : lo ≤ mi ∧ mi ≤ hi := by omega
  have Hmi := hide hmi; clear hmi
  obtain ⟨w5, Hw5⟩ : ∃ w5, Hid ((((((w.alloc (.cells #[.int .i64 a0, .int .i64 a1, .int .i64 li, .int .i64 cr, .int .i64 m0, .int .i64 m1, .int .i64 w0, .int .i64 w1, .int .i64 r0, .int .i64 r1] 107)).alloc (.cells #[.int .i64 lo, .int .i64 hi] 23)).alloc (.cells #[.int .i64 0, .int .i64 0] 23)).alloc (.cells #[.int .i64 lo, .int .i64 hi, .int .i64 mi] 3)).alloc (.cells #[.slice (some ⟨w.heap.size + 1 + 1 + 1, 0, none⟩) 3 3] 41)) = w5) := ⟨_, hide rfl⟩
  rw [Hw5.out]
  have hA : Aft w w5 [.int .i64 a0, .int .i64 a1, .int .i64 li, .int .i64 cr, .int .i64 m0, .int .i64 m1, .int .i64 w0, .int .i64 w1, .int .i64 r0, .int .i64 r1] [lo, hi, mi] := by
    rw [← Hw5.out]
    refine ⟨((((At.new w #[.int .i64 a0, .int .i64 a1, .int .i64 li, .int .i64 cr, .int .i64 m0, .int .i64 m1, .int .i64 w0, .int .i64 w1, .int .i64 r0, .int .i64 r1] _ w.heap.size rfl _ rfl).alloc _).alloc _).alloc _).alloc _, At.new _ #[.slice (some ⟨w.heap.size + 1 + 1 + 1, 0, none⟩) 3 3] _ _ (by simp) _ rfl, ?_, ((At.new _ #[.int .i64 0, .int .i64 0] _ _ (by simp) _ rfl).alloc _).alloc _, ?_, (((((below_new w _).alloc (by simp) _).alloc (by simp; omega) _).alloc (by simp; omega) _).alloc (by simp; omega) _)⟩
    · have h1 := Rd.new (cells := icell) (((w.alloc (.cells #[.int .i64 a0, .int .i64 a1, .int .i64 li, .int .i64 cr, .int .i64 m0, .int .i64 m1, .int .i64 w0, .int .i64 w1, .int .i64 r0, .int .i64 r1] 107)).alloc (.cells #[.int .i64 lo, .int .i64 hi] 23)).alloc (.cells #[.int .i64 0, .int .i64 0] 23)) #[.int .i64 lo, .int .i64 hi, .int .i64 mi] 3 [lo, hi, mi] rfl
      refine Rd.more (B := w.heap.size + 1 + 1 + 1 + 1) ?_ (by simp)
      have h2 := h1.below ((below_new _ (.cells #[.slice (some ⟨w.heap.size + 1 + 1 + 1, 0, none⟩) 3 3] 41)).mono (by simp))
      simpa using h2
    · intro j
      have h0 := At.frozen_new ((w.alloc (.cells #[.int .i64 a0, .int .i64 a1, .int .i64 li, .int .i64 cr, .int .i64 m0, .int .i64 m1, .int .i64 w0, .int .i64 w1, .int .i64 r0, .int .i64 r1] 107)).alloc (.cells #[.int .i64 lo, .int .i64 hi] 23)) #[.int .i64 0, .int .i64 0] 23 (w.heap.size + 1 + 1) (by simp) j
      exact ((below_new _ _).frozen (p := ⟨w.heap.size + 1 + 1, j, none⟩) (by simp)).trans (((below_new _ _).frozen (p := ⟨w.heap.size + 1 + 1, j, none⟩) (by simp)).trans h0)
  clear Hw5
  have hxs : ∀ x ∈ [lo, hi, mi], 0 ≤ x ∧ x ≤ 1000000000 := by intro x hx; simp at hx; omega
  have Hxs := hide hxs; clear hxs
  go_wp2_with (first | (go_at_call 57; refine (low_any _).mono ?_; rintro e w' ⟨rfl, hb⟩; have hA := hA.keep hb) | (go_at_call 56; refine (high_any _).mono ?_; rintro e w' ⟨rfl, hb⟩; have hA := hA.keep hb))
  refine (after1_low a0 a1 li cr m0 m1 w0 w1 r0 r1 _ _ _ 3 3 [lo, hi, mi] _ hA.sl.c1 hA.sl.1 hA.so rfl (by omega) (by omega) hA.rd Hf.out Hxs.out).mono ?_
  rintro e w' ⟨rfl, hb⟩
  have hA := hA.keep hb
  obtain ⟨x, hx⟩ : ∃ x, x = roundF false (max 0 (outF false ([lo, hi, mi].map (saltedF false ⟨⟨a0, a1⟩, li, cr, ⟨m0, m1⟩, ⟨w0, w1⟩, ⟨r0, r1⟩⟩)))) := ⟨_, rfl⟩
  rw [← hx]
  have Hx := hide hx; clear hx
  go_wp2_with (first | (go_at_call 57; refine (low_any _).mono ?_; rintro e w' ⟨rfl, hb⟩; have hA := hA.keep hb) | (go_at_call 56; refine (high_any _).mono ?_; rintro e w' ⟨rfl, hb⟩; have hA := hA.keep hb))
  refine (after1_high a0 a1 li cr m0 m1 w0 w1 r0 r1 _ _ _ 3 3 [lo, hi, mi] _ hA.sl.c1 hA.sl.1 hA.so rfl (by omega) (by omega) hA.rd Hf.out Hxs.out).mono ?_
  rintro e w' ⟨rfl, hb⟩
  have hA := hA.keep hb
  obtain ⟨y, hy⟩ : ∃ y, y = roundF true (max 0 (outF true ([lo, hi, mi].map (saltedF true ⟨⟨a0, a1⟩, li, cr, ⟨m0, m1⟩, ⟨w0, w1⟩, ⟨r0, r1⟩⟩)))) := ⟨_, rfl⟩
  rw [← hy]
  have Hy := hide hy; clear hy
  obtain ⟨z0, z1⟩ := hA.rc.c2
  have y0 := hA.fz 0
  have y1 := hA.fz 1
  have hB := hide hA.bl
  have hln := hide hA.rc.1
  obtain ⟨k0, k1⟩ := two_set w' (w.heap.size + 1 + 1) (.int .i64 x) (.int .i64 y) z0 z1
  go_wp2
  refine bodyPost_ret (by simp [results, Try.results90, go_sem, k0, k1]; try rfl) rfl ?_
  refine ⟨?_, (hB.out.setCell (by simp; omega) _).setCell (by simp; omega) _⟩
  rw [Hx.out, Hy.out, Hmi.out]
  rfl
end Go.Proofs.Ytmbhnjpaieimbaa
