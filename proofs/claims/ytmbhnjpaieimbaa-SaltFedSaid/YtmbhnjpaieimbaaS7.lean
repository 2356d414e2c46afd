/- Salt: the salt after one cycle, by contracts. Salt: the years without end, by a contract of our own. Salt: After, by contracts. -/
import Derived.Test.YtmbhnjpaieimbaaS4
import Derived.Test.YtmbhnjpaieimbaaRange
import Derived.Handy
set_option linter.unusedVariables false
set_option linter.unusedSimpArgs false
namespace Go.Proofs.Ytmbhnjpaieimbaa
open Go.RowKit Go.Shelf
attribute [local go_sem] ite_min ite_max
def turnsF (s : So) (w : Sp) : List Int := [w.lo, w.hi, min (max s.crop w.lo) w.hi]
def endC (h : Bool) (s : So) (w : Sp) : Int := roundF h (max 0 (outF h ((turnsF s w).map (saltedF h s))))
def cycleF (s : So) (w : Sp) : Sp := ⟨endC false s w, endC true s w⟩

/-- What the body of after finds in memory. -/
structure Aft (w W : World) (cs : List Value) (ts : List Int) : Prop where
  so : At W w.heap.size cs
  sl : At W (w.heap.size + 1 + 1 + 1 + 1) [.slice (some ⟨w.heap.size + 1 + 1 + 1, 0, none⟩) 3 3]
  rd : Rd W W.heap.size icell (some ⟨w.heap.size + 1 + 1 + 1, 0, none⟩) ts
  rc : At W (w.heap.size + 1 + 1) [.int .i64 0, .int .i64 0]
  fz : ∀ j : Nat, W.frozen? ⟨w.heap.size + 1 + 1, j, none⟩ = false
  bl : Below w.heap.size w W
theorem Aft.keep {w W W' : World} {cs : List Value} {ts : List Int} (h : Aft w W cs ts) (hb : Below W.heap.size W W') : Aft w W' cs ts :=
  ⟨h.so.below hb, h.sl.below hb, (h.rd.below hb).more hb.size, h.rc.below hb, fun j => (hb.frozen (p := ⟨_, j, none⟩) h.rc.1).trans (h.fz j), h.bl.trans (hb.mono h.bl.size)⟩
set_option maxHeartbeats 8000000 in
set_option maxRecDepth 100000 in
theorem after_any (a0 a1 li cr m0 m1 w0 w1 r0 r1 lo hi : Int) (w : World) (hf : So.fit 100000000000000 ⟨⟨a0, a1⟩, li, cr, ⟨m0, m1⟩, ⟨w0, w1⟩, ⟨r0, r1⟩⟩) (hlo : 0 ≤ lo) (hh : lo ≤ hi) (hhi : hi ≤ 1000000000) :
    Calls Try.prog 90 #[.agg #[.int .i64 a0, .int .i64 a1, .int .i64 li, .int .i64 cr, .int .i64 m0, .int .i64 m1, .int .i64 w0, .int .i64 w1, .int .i64 r0, .int .i64 r1], .agg #[.int .i64 lo, .int .i64 hi]] w fun e w' => e = .returned (.agg #[.int .i64 (cycleF ⟨⟨a0, a1⟩, li, cr, ⟨m0, m1⟩, ⟨w0, w1⟩, ⟨r0, r1⟩⟩ ⟨lo, hi⟩).lo, .int .i64 (cycleF ⟨⟨a0, a1⟩, li, cr, ⟨m0, m1⟩, ⟨w0, w1⟩, ⟨r0, r1⟩⟩ ⟨lo, hi⟩).hi]) ∧ Below w.heap.size w w' := by
  have Hf := hide hf; clear hf
  go_enter Try.func90, Try.ntmps90
  go_wp2_with fail
  obtain ⟨mi, hmi⟩ : ∃ mi, mi = min (max cr lo) hi := ⟨_, rfl⟩
  rw [← hmi]
  have hml : lo ≤ mi ∧ mi ≤ hi := by omega
  have Hmi := hide hmi; clear hmi
  obtain ⟨w5, Hw5⟩ : ∃ w5, Hid ((((((w.alloc (.cells #[.int .i64 a0, .int .i64 a1, .int .i64 li, .int .i64 cr, .int .i64 m0, .int .i64 m1, .int .i64 w0, .int .i64 w1, .int .i64 r0, .int .i64 r1] 107)).alloc (.cells #[.int .i64 lo, .int .i64 hi] 23)).alloc (.cells #[.int .i64 0, .int .i64 0] 23)).alloc (.cells #[.int .i64 lo, .int .i64 hi, .int .i64 mi] 3)).alloc (.cells #[.slice (some ⟨w.heap.size + 1 + 1 + 1, 0, none⟩) 3 3] 41)) = w5) := ⟨_, hide rfl⟩
  rw [Hw5.out]
  have hA : Aft w w5 [.int .i64 a0, .int .i64 a1, .int .i64 li, .int .i64 cr, .int .i64 m0, .int .i64 m1, .int .i64 w0, .int .i64 w1, .int .i64 r0, .int .i64 r1] [lo, hi, mi] := by
    rw [← Hw5.out]
    refine ⟨((((At.new w #[.int .i64 a0, .int .i64 a1, .int .i64 li, .int .i64 cr, .int .i64 m0, .int .i64 m1, .int .i64 w0, .int .i64 w1, .int .i64 r0, .int .i64 r1] _ w.heap.size rfl _ rfl).alloc _).alloc _).alloc _).alloc _, At.new _ #[.slice (some ⟨w.heap.size + 1 + 1 + 1, 0, none⟩) 3 3] _ _ (by simp) _ rfl, ?_, ((At.new _ #[.int .i64 0, .int .i64 0] _ _ (by simp) _ rfl).alloc _).alloc _, ?_, (((((below_new w _).alloc (by simp) _).alloc (by simp; omega) _).alloc (by simp; omega) _).alloc (by simp; omega) _)⟩
    · have h1 := Rd.new (cells := icell) (((w.alloc (.cells #[.int .i64 a0, .int .i64 a1, .int .i64 li, .int .i64 cr, .int .i64 m0, .int .i64 m1, .int .i64 w0, .int .i64 w1, .int .i64 r0, .int .i64 r1] 107)).alloc (.cells #[.int .i64 lo, .int .i64 hi] 23)).alloc (.cells #[.int .i64 0, .int .i64 0] 23)) #[.int .i64 lo, .int .i64 hi, .int .i64 mi] 3 [lo, hi, mi] rfl
      refine Rd.more (B := w.heap.size + 1 + 1 + 1 + 1) ?_ (by simp)
      have h2 := h1.below ((below_new _ (.cells #[.slice (some ⟨w.heap.size + 1 + 1 + 1, 0, none⟩) 3 3] 41)).mono (by simp))
      simpa using h2
    · intro j
      have h0 := At.frozen_new ((w.alloc (.cells #[.int .i64 a0, .int .i64 a1, .int .i64 li, .int .i64 cr, .int .i64 m0, .int .i64 m1, .int .i64 w0, .int .i64 w1, .int .i64 r0, .int .i64 r1] 107)).alloc (.cells #[.int .i64 lo, .int .i64 hi] 23)) #[.int .i64 0, .int .i64 0] 23 (w.heap.size + 1 + 1) (by simp) j
      exact ((below_new _ _).frozen (p := ⟨w.heap.size + 1 + 1, j, none⟩) (by simp)).trans (((below_new _ _).frozen (p := ⟨w.heap.size + 1 + 1, j, none⟩) (by simp)).trans h0)
  clear Hw5
  have hxs : ∀ x ∈ [lo, hi, mi], 0 ≤ x ∧ x ≤ 1000000000 := by intro x hx; simp at hx; omega
  have Hxs := hide hxs; clear hxs
  go_wp2_with (first | (go_at_call 57; refine (low_any _).mono ?_; rintro e w' ⟨rfl, hb⟩; have hA := hA.keep hb) | (go_at_call 56; refine (high_any _).mono ?_; rintro e w' ⟨rfl, hb⟩; have hA := hA.keep hb))
  refine (after1_low a0 a1 li cr m0 m1 w0 w1 r0 r1 _ _ _ 3 3 [lo, hi, mi] _ hA.sl.c1 hA.sl.1 hA.so rfl (by omega) (by omega) hA.rd Hf.out Hxs.out).mono ?_
  rintro e w' ⟨rfl, hb⟩
  have hA := hA.keep hb
  obtain ⟨x, hx⟩ : ∃ x, x = roundF false (max 0 (outF false ([lo, hi, mi].map (saltedF false ⟨⟨a0, a1⟩, li, cr, ⟨m0, m1⟩, ⟨w0, w1⟩, ⟨r0, r1⟩⟩)))) := ⟨_, rfl⟩
  rw [← hx]
  have Hx := hide hx; clear hx
  go_wp2_with (first | (go_at_call 57; refine (low_any _).mono ?_; rintro e w' ⟨rfl, hb⟩; have hA := hA.keep hb) | (go_at_call 56; refine (high_any _).mono ?_; rintro e w' ⟨rfl, hb⟩; have hA := hA.keep hb))
  refine (after1_high a0 a1 li cr m0 m1 w0 w1 r0 r1 _ _ _ 3 3 [lo, hi, mi] _ hA.sl.c1 hA.sl.1 hA.so rfl (by omega) (by omega) hA.rd Hf.out Hxs.out).mono ?_
  rintro e w' ⟨rfl, hb⟩
  have hA := hA.keep hb
  obtain ⟨y, hy⟩ : ∃ y, y = roundF true (max 0 (outF true ([lo, hi, mi].map (saltedF true ⟨⟨a0, a1⟩, li, cr, ⟨m0, m1⟩, ⟨w0, w1⟩, ⟨r0, r1⟩⟩)))) := ⟨_, rfl⟩
  rw [← hy]
  have Hy := hide hy; clear hy
  obtain ⟨z0, z1⟩ := hA.rc.c2
  have y0 := hA.fz 0
  have y1 := hA.fz 1
  have hB := hide hA.bl
  have hln := hide hA.rc.1
  obtain ⟨k0, k1⟩ := two_set w' (w.heap.size + 1 + 1) (.int .i64 x) (.int .i64 y) z0 z1
  go_wp2
  refine bodyPost_ret (by simp [results, Try.results90, go_sem, k0, k1]; try rfl) rfl ?_
  refine ⟨?_, (hB.out.setCell (by simp; omega) _).setCell (by simp; omega) _⟩
  rw [Hx.out, Hy.out, Hmi.out]
  rfl
end Go.Proofs.Ytmbhnjpaieimbaa
namespace Go.Proofs.Ytmbhnjpaieimbaa
open Go.RowKit Go.Shelf
attribute [local go_sem] Oper.semAt_some
/-! ### 1. The plain law: the salt after k cycles -/
def So.set (s : So) (a : Sp) : So := { s with salt := a }
def saltN (s : So) (w : Sp) : Nat → Sp
  | 0 => s.salt
  | k + 1 => cycleF (s.set (saltN s w k)) w
theorem roundF_bd {h : Bool} {o X : Int} (hX : 0 ≤ X) (ho : o ≤ 1000 * X) : 0 ≤ roundF h (max 0 o) ∧ roundF h (max 0 o) ≤ X := by
  cases h <;> simp only [roundF, Bool.false_eq_true, if_false, if_true] <;> omega
theorem endC_bd {h : Bool} {s : So} {w : Sp} {B : Int} (hB : 0 ≤ B) (hf : s.fit B) (h0 : 0 ≤ w.lo) (h1 : w.lo ≤ w.hi) (h2 : w.hi ≤ 1000000000) : 0 ≤ endC h s w ∧ endC h s w ≤ B + 100100000000 := by
  unfold endC
  refine roundF_bd (by omega) ?_
  refine (outF_bd (C := -100000000000000) (by simp [turnsF]) (fun y hy => ?_)).1
  obtain ⟨x, hx, rfl⟩ := List.mem_map.1 hy
  have hx' : 0 ≤ x ∧ x ≤ 1000000000 := by simp [turnsF] at hx; omega
  have := saltedF_bds (h := h) hf hx'.1 hx'.2
  omega
theorem So.fit.set {s : So} {B B' : Int} {a : Sp} (hf : s.fit B) (h0 : 0 ≤ a.lo ∧ a.lo ≤ B') (h1 : 0 ≤ a.hi ∧ a.hi ≤ B') : (s.set a).fit B' := ⟨h0, h1, hf.cr, hf.m0, hf.m1, hf.w0, hf.w1, hf.r0, hf.r1⟩
theorem saltN_bd {s : So} {w : Sp} (hf : s.fit 100000000) (h0 : 0 ≤ w.lo) (h1 : w.lo ≤ w.hi) (h2 : w.hi ≤ 1000000000) : ∀ k : Nat,
    (0 ≤ (saltN s w k).lo ∧ (saltN s w k).lo ≤ 100000000 + k * 100100000000) ∧ (0 ≤ (saltN s w k).hi ∧ (saltN s w k).hi ≤ 100000000 + k * 100100000000)
  | 0 => by have a := hf.a0; have b := hf.a1; simp only [saltN]; omega
  | k + 1 => by
    have ih := saltN_bd hf h0 h1 h2 k
    have hf' : (s.set (saltN s w k)).fit (100000000 + k * 100100000000) := hf.set ih.1 ih.2
    have a := endC_bd (h := false) (by omega) hf' h0 h1 h2
    have b := endC_bd (h := true) (by omega) hf' h0 h1 h2
    simp only [saltN, cycleF]
    push_cast
    omega
theorem saltN_fit {s : So} {w : Sp} (hf : s.fit 100000000) (h0 : 0 ≤ w.lo) (h1 : w.lo ≤ w.hi) (h2 : w.hi ≤ 1000000000) {k : Nat} (hk : k ≤ 100) : (s.set (saltN s w k)).fit 100000000000000 := by
  have ih := saltN_bd hf h0 h1 h2 k
  exact hf.set (by omega) (by omega)

set_option maxHeartbeats 8000000 in
set_option maxRecDepth 100000 in
theorem years1_seq (n : Nat) (hn : 3 ≤ n) (bs bw : Nat) (hne : bs ≠ bw) (a0 a1 li cr m0 m1 w0 w1 r0 r1 lo hi : Int) (N : Nat) (hN : N ≤ 100) (wa : World) (hf : So.fit 100000000 ⟨⟨a0, a1⟩, li, cr, ⟨m0, m1⟩, ⟨w0, w1⟩, ⟨r0, r1⟩⟩) (hlo : 0 ≤ lo) (hh : lo ≤ hi) (hhi : hi ≤ 1000000000)
    (hs : At wa bs [.int .i64 a0, .int .i64 a1, .int .i64 li, .int .i64 cr, .int .i64 m0, .int .i64 m1, .int .i64 w0, .int .i64 w1, .int .i64 r0, .int .i64 r1]) (hfz : ∀ j : Nat, wa.frozen? ⟨bs, j, none⟩ = false) (hw : At wa bw [.int .i64 lo, .int .i64 hi]) :
    SeqK n Try.prog 89 #[.pointer (some ⟨bs, 0, none⟩), .pointer (some ⟨bw, 0, none⟩)] (fun k => #[.agg #[.int .i64 (saltN ⟨⟨a0, a1⟩, li, cr, ⟨m0, m1⟩, ⟨w0, w1⟩, ⟨r0, r1⟩⟩ ⟨lo, hi⟩ (k + 1)).lo, .int .i64 (saltN ⟨⟨a0, a1⟩, li, cr, ⟨m0, m1⟩, ⟨w0, w1⟩, ⟨r0, r1⟩⟩ ⟨lo, hi⟩ (k + 1)).hi]]) N True (fun _ _ => False) (fun b => b = bs) (fun b => b = bs ∨ b = bw) wa := by
  intro l J Jx W hW hJ hJx hY h0 hinf
  have Hf := hide hf; have HJ := hide hJ; have HJx := hide hJx; have HY := hide hY; have Hinf := hide hinf; have H0 := hide h0
  have Hs := hide (hs.kept hW (.inl rfl)); have Hw := hide (hw.kept hW (.inr rfl))
  have Hz : Hid (∀ j : Nat, W.frozen? ⟨bs, j, none⟩ = false) := hide fun j => (hW.frozen (p := ⟨bs, j, none⟩) (.inl rfl) hs.1).trans (hfz j)
  clear hf hJ hJx hY hinf h0 hs hw hfz hW
  refine callsIn_of_wp Try.func89 rfl trivial ?_ rfl
  simp only [Try.ntmps89, List.size_toArray, List.length_cons, List.length_nil, Nat.reduceAdd, Nat.reduceSub, Array.replicate_succ, Array.replicate_zero, List.push_toArray, List.append_toArray, List.nil_append, List.cons_append]
  gi_wp2
  refine wpIn_loop_rounds N (rounds_of (fun r a wr => ∃ (k : Nat) (u3 u4 u5 u6 u7 u8 u9 u10 u11 u12 u13 u14 : Value), k + r = N ∧ a = { tmps := #[.func (.yield l) #[] #[], .pointer (some ⟨bs, 0, none⟩), .pointer (some ⟨bw, 0, none⟩), u3, u4, u5, u6, u7, u8, u9, u10, u11, u12, u13, u14], defers := [] } ∧ J k wr ∧
      Hid (At wr bs ((So.set ⟨⟨a0, a1⟩, li, cr, ⟨m0, m1⟩, ⟨w0, w1⟩, ⟨r0, r1⟩⟩ (saltN ⟨⟨a0, a1⟩, li, cr, ⟨m0, m1⟩, ⟨w0, w1⟩, ⟨r0, r1⟩⟩ ⟨lo, hi⟩ k)).cells)) ∧ Hid (At wr bw [.int .i64 lo, .int .i64 hi]) ∧ Hid (∀ j : Nat, wr.frozen? ⟨bs, j, none⟩ = false)) ?_ ?_ N _ _ ⟨0, undef, undef, undef, undef, undef, undef, undef, undef, undef, undef, undef, undef, by omega, rfl, H0.out, Hs, Hw, Hz⟩)
  · rintro a wr ⟨k, u3, u4, u5, u6, u7, u8, u9, u10, u11, u12, u13, u14, hk, rfl, hj, _⟩
    obtain rfl : k = N := by omega
    exact Hinf.out trivial _ hj
  · rintro r a wr ⟨k, u3, u4, u5, u6, u7, u8, u9, u10, u11, u12, u13, u14, hk, rfl, hj, hs, hw, hz⟩
    have Hj := hide hj; clear hj
    obtain ⟨x, y, hxy⟩ : ∃ x y, saltN ⟨⟨a0, a1⟩, li, cr, ⟨m0, m1⟩, ⟨w0, w1⟩, ⟨r0, r1⟩⟩ ⟨lo, hi⟩ k = ⟨x, y⟩ := ⟨_, _, rfl⟩
    have hfit := saltN_fit (w := ⟨lo, hi⟩) Hf.out hlo hh hhi (k := k) (by omega)
    rw [hxy] at hfit
    have hat : At wr bs [.int .i64 x, .int .i64 y, .int .i64 li, .int .i64 cr, .int .i64 m0, .int .i64 m1, .int .i64 w0, .int .i64 w1, .int .i64 r0, .int .i64 r1] := by
      have h1 := hs.out
      rw [hxy] at h1
      exact h1
    obtain ⟨q0, q1, q2, q3, q4, q5, q6, q7, q8, q9⟩ := hat.c10
    obtain ⟨z0, z1⟩ := hw.out.c2
    have haf := hide (after_any x y li cr m0 m1 w0 w1 r0 r1 lo hi wr hfit hlo hh hhi)
    have hnx : saltN ⟨⟨a0, a1⟩, li, cr, ⟨m0, m1⟩, ⟨w0, w1⟩, ⟨r0, r1⟩⟩ ⟨lo, hi⟩ (k + 1) = cycleF (So.set ⟨⟨a0, a1⟩, li, cr, ⟨m0, m1⟩, ⟨w0, w1⟩, ⟨r0, r1⟩⟩ ⟨x, y⟩) ⟨lo, hi⟩ := by rw [← hxy]; rfl
    obtain ⟨x', y', hxy'⟩ : ∃ x' y', cycleF (So.set ⟨⟨a0, a1⟩, li, cr, ⟨m0, m1⟩, ⟨w0, w1⟩, ⟨r0, r1⟩⟩ ⟨x, y⟩) ⟨lo, hi⟩ = ⟨x', y'⟩ := ⟨_, _, rfl⟩
    have haf' : Hid (Calls Try.prog 90 #[.agg #[.int .i64 x, .int .i64 y, .int .i64 li, .int .i64 cr, .int .i64 m0, .int .i64 m1, .int .i64 w0, .int .i64 w1, .int .i64 r0, .int .i64 r1], .agg #[.int .i64 lo, .int .i64 hi]] wr fun e w' => e = .returned (.agg #[.int .i64 x', .int .i64 y']) ∧ Below wr.heap.size wr w') := by
      have h1 := haf.out
      have h2 : cycleF ⟨⟨x, y⟩, li, cr, ⟨m0, m1⟩, ⟨w0, w1⟩, ⟨r0, r1⟩⟩ ⟨lo, hi⟩ = ⟨x', y'⟩ := hxy'
      rw [h2] at h1
      exact h1
    rw [hxy'] at hnx
    have Hnx := hide hnx; have Hxy := hide hxy
    clear hnx hxy hxy' haf hfit
    have hkN : k < N := by omega
    gi_wp2_with fail
    refine ⟨trivial, fun h => by simp [Fence.wide] at h, ?_⟩
    refine (callsIn_wide.2 haf'.out).mono ?_
    rintro e w' ⟨rfl, hb⟩
    have hat2 := ((hat.below hb).set (j := 0) (.int .i64 x') (by simp)).set (j := 1) (.int .i64 y') (by simp)
    simp only [List.set_cons_zero, List.set_cons_succ] at hat2
    obtain ⟨p0, p1⟩ := two_set w' bs (.int .i64 x') (.int .i64 y') (hat.below hb).c10.1 (hat.below hb).c10.2.1
    obtain ⟨c0, c1, _⟩ := (hat.below hb).c10
    have f0 : w'.frozen? ⟨bs, 0, none⟩ = false := (hb.frozen (p := ⟨bs, 0, none⟩) hat.1).trans (hz.out 0)
    have f1 : w'.frozen? ⟨bs, 1, none⟩ = false := (hb.frozen (p := ⟨bs, 1, none⟩) hat.1).trans (hz.out 1)
    have kk : Kept (fun b => ¬ b = bs) wr ((w'.setCell ⟨bs, 0, none⟩ (.int .i64 x')).setCell ⟨bs, 1, none⟩ (.int .i64 y')) :=
      ((Kept.all _ hb).trans ((Kept.setCell w' ⟨bs, 0, none⟩ (.int .i64 x')).mono fun b _ h => h)).trans ((Kept.setCell _ ⟨bs, 1, none⟩ (.int .i64 y')).mono fun b _ h => h)
    have hj2 := HJ.out k _ _ Hj.out kk
    have hw2 := hide (hw.out.kept kk (fun e => hne e.symm))
    obtain ⟨fn, tmps, assign, body, hy, hR⟩ := HY.out k _ hj2 hkN
    rw [Hnx.out] at hy
    have HR := hide hR; have Hat2 := hide hat2
    clear hR hat2
    gi_wp2
    refine ⟨fun h => by simp [Fence.wide] at h, HR.out.mono ?_⟩
    rintro e W' (⟨rfl, hJ', hk'⟩ | ⟨rfl, hJx'⟩)
    · gi_wp2
      refine ⟨k + 1, _, _, _, _, _, _, _, _, _, _, _, _, by omega, rfl, hJ', ?_, ?_, ?_⟩
      · exact hide (by rw [Hnx.out]; exact Hat2.out.kept hk' (.inl rfl))
      · exact hide (hw2.out.kept hk' (.inr rfl))
      · refine hide fun j => (hk'.frozen (p := ⟨bs, j, none⟩) (.inl rfl) Hat2.out.1).trans ?_
        rw [World.frozen?_setCell, World.frozen?_setCell]
        exact (hb.frozen (p := ⟨bs, j, none⟩) hat.1).trans (hz.out j)
    · gi_wp2
      refine bodyPost_ret (results_none rfl _ _ _) rfl ?_
      exact .inl ⟨_, rfl, .inr ⟨k + 1, by omega, hJx'⟩⟩
end Go.Proofs.Ytmbhnjpaieimbaa
namespace Go.Proofs.Ytmbhnjpaieimbaa
open Go.RowKit Go.Shelf
attribute [local go_sem] Oper.semAt_some


theorem info_Sp : (Try.prog.info? 23).map (fun i => (i.zero, i.size, i.bytes)) = some (some (.agg #[.int .i64 0, .int .i64 0]), 2, 16) := by kernel_rfl
theorem appl_Sp {ops : Array Oper} {rest : List Oper} {o : Oper} {a : Act} {Q : Exit → Act → World → Prop} (hgd : o.guard = none) (w : World) (s x : Operand)
    (ho : o.op = .call { callee := .builtin .append, args := #[s, x], argTypes := #[26, 26] }) (base : Nat)
    (v : Value) (xs : List Sp) (hs : a.eval s = v) (hown : Own w base 23 2 Sp.cells v xs) (B : Nat) (A : Option Addr) (n c : Nat) (ys : List Sp) (hn : ys.length = n) (hx : a.eval x = .slice A n c) (hr : Rd w B Sp.cells A ys)
    (hlen : xs.length + ys.length ≤ 1000000) (hbase : base ≤ w.heap.size)
    (h : ∀ v' w', Own w' base 23 2 Sp.cells v' (xs ++ ys) → w.grownBy w' v.ownBlock → wpList Try.prog ops Q rest (a.put o.dst v') w') : wpList Try.prog ops Q (o :: rest) a w := by
  obtain ⟨i0, hi0, hz0, hz1, hz2⟩ := info_parts info_Sp
  exact wpList_append_rd hgd w s x 26 ho base 23 i0 _ 2 16 Try.underlying26 hi0 hz0 hz1 hz2 rfl (by omega) (fun _ => rfl) Sp.one v xs hs hown B A n c ys hn hx hr (by simp only [maxLen]; omega) (by omega) hbase h

theorem appi_Sp {F : Fence} {nf : Nat} {ops : Array Oper} {rest : List Oper} {o : Oper} {a : Act} {Q : Exit → Act → World → Prop} (hgd : o.guard = none) (w : World) (s x : Operand)
    (ho : o.op = .call { callee := .builtin .append, args := #[s, x], argTypes := #[26, 26] }) (base : Nat)
    (v : Value) (xs : List Sp) (hs : a.eval s = v) (hown : Own w base 23 2 Sp.cells v xs) (B : Nat) (A : Option Addr) (n c : Nat) (ys : List Sp) (hn : ys.length = n) (hx : a.eval x = .slice A n c) (hr : Rd w B Sp.cells A ys)
    (hlen : xs.length + ys.length ≤ 1000000) (hbase : base ≤ w.heap.size)
    (h : ∀ v' w', Own w' base 23 2 Sp.cells v' (xs ++ ys) → w.grownBy w' v.ownBlock → wpListIn F nf Try.prog ops Q rest (a.put o.dst v') w') : wpListIn F nf Try.prog ops Q (o :: rest) a w := by
  obtain ⟨i0, hi0, hz0, hz1, hz2⟩ := info_parts info_Sp
  exact wpListIn_append_rd hgd w s x 26 ho base 23 i0 _ 2 16 Try.underlying26 hi0 hz0 hz1 hz2 rfl (by omega) (fun _ => rfl) Sp.one v xs hs hown B A n c ys hn hx hr (by simp only [maxLen]; omega) (by omega) hbase h


theorem years_any (a0 a1 li cr m0 m1 w0 w1 r0 r1 lo hi : Int) (w : World) :
    Calls Try.prog 51 #[.agg #[.int .i64 a0, .int .i64 a1, .int .i64 li, .int .i64 cr, .int .i64 m0, .int .i64 m1, .int .i64 w0, .int .i64 w1, .int .i64 r0, .int .i64 r1], .agg #[.int .i64 lo, .int .i64 hi]] w fun e w' => e = .returned (.func (.func 89) #[] #[.pointer (some ⟨w.heap.size, 0, none⟩), .pointer (some ⟨w.heap.size + 1, 0, none⟩)]) ∧ w' = (w.alloc (.cells #[.int .i64 a0, .int .i64 a1, .int .i64 li, .int .i64 cr, .int .i64 m0, .int .i64 m1, .int .i64 w0, .int .i64 w1, .int .i64 r0, .int .i64 r1] 107)).alloc (.cells #[.int .i64 lo, .int .i64 hi] 23) := by
  go_enter Try.func51, Try.ntmps51
  go_wp2
  go_ret
  exact ⟨rfl, rfl⟩
/-- The salt after each of the cycles. -/
def afterL (s : So) (w : Sp) (n : Nat) : List Sp := (List.range n).map fun k => saltN s w (k + 1)
theorem afterL_succ (s : So) (w : Sp) (n : Nat) : afterL s w (n + 1) = afterL s w n ++ [saltN s w (n + 1)] := by simp [afterL, List.range_succ]
theorem afterL_len (s : So) (w : Sp) (n : Nat) : (afterL s w n).length = n := by simp [afterL]
def afterOk (s : So) (w : Sp) (c : Int) : Bool := soOk s && (Sp.ok 0 1000000000 w && inB 0 100 c)
def afterE (s : So) (w : Sp) (c : Int) : Int := if soOk s then (if Sp.ok 0 1000000000 w && inB 0 100 c then 0 else 2) else 60
def afterV (s : So) (w : Sp) (c : Int) : List Sp := if afterOk s w c then afterL s w c.toNat else []
theorem So.fit_of {s : So} (h : soOk s = true) : s.fit 100000000 := by
  simp [soOk, Sp.ok, inB] at h
  constructor <;> omega

/-- What the loop of After holds. -/
structure AfInv (w : World) (L cb base : Nat) (n : Int) (xs : List Sp) (W : World) : Prop where
  own : ∃ v, Own W base 23 2 Sp.cells v xs ∧ W.cell? ⟨L, 0, none⟩ = some v ∧ W.frozen? ⟨L, 0, none⟩ = false
  lt : L < W.heap.size
  cnt : At W cb [.int .i64 n]
  bl : Below w.heap.size w W
  big : base ≤ W.heap.size
theorem AfInv.kept {w W W' : World} {L cb base : Nat} {n : Int} {xs : List Sp} {R : Nat → Prop} (h : AfInv w L cb base n xs W) (hk : Kept R W W') (h1 : ∀ b, base ≤ b → R b) (h2 : R L) (h3 : R cb) (h4 : ∀ b, b < w.heap.size → R b) : AfInv w L cb base n xs W' := by
  obtain ⟨v, ho, hc, hf⟩ := h.own
  exact ⟨⟨v, ho.keptR hk h1, (hk.cell (p := ⟨L, 0, none⟩) h2 h.lt).trans hc, (hk.frozen (p := ⟨L, 0, none⟩) h2 h.lt).trans hf⟩, Nat.lt_of_lt_of_le h.lt hk.size, h.cnt.kept hk h3, h.bl.trans (hk.below h4 h.bl.size), Nat.le_trans h.big hk.size⟩

theorem AfInv.step {w W wv : World} {L cb base : Nat} {n : Int} {xs : List Sp} {x : Sp} {vv : Value} (h : AfInv w L cb base n xs W) (ho : Own wv base 23 2 Sp.cells vv (xs ++ [x])) (hk : Kept (fun b => b < base) W wv)
    (hL : L < base) (hcb : cb < base) (hne : cb ≠ L) (hw : w.heap.size ≤ L) : AfInv w L cb base n (xs ++ [x]) (wv.setCell ⟨L, 0, none⟩ vv) ∧ Kept (fun b => b < base ∧ ¬ b = L) W (wv.setCell ⟨L, 0, none⟩ vv) := by
  obtain ⟨v, _, hc, hf⟩ := h.own
  have hk2 : Kept (fun b => b < base ∧ ¬ b = L) W (wv.setCell ⟨L, 0, none⟩ vv) := (hk.mono fun b _ hb => hb.1).trans ((Kept.setCell wv ⟨L, 0, none⟩ vv).mono fun b _ hb => hb.2)
  have hc1 : wv.cell? ⟨L, 0, none⟩ = some v := (hk.cell (p := ⟨L, 0, none⟩) hL h.lt).trans hc
  have hf1 : wv.frozen? ⟨L, 0, none⟩ = false := (hk.frozen (p := ⟨L, 0, none⟩) hL h.lt).trans hf
  refine ⟨⟨⟨vv, ho.setCell ?_ _, World.cell?_setCell_same' _ _ _ (by rw [hc1]; rfl), by rw [World.frozen?_setCell]; exact hf1⟩, Nat.lt_of_lt_of_le h.lt hk2.size, h.cnt.kept hk2 ⟨hcb, hne⟩, h.bl.trans (hk2.below (fun b hb => ⟨by omega, by omega⟩) h.bl.size), Nat.le_trans h.big hk2.size⟩, hk2⟩
  intro e
  rcases ho.block_ with hb | ⟨g, hb, hb2, _⟩
  · rw [hb] at e; cases e
  · rw [hb] at e
    injection e with e
    simp only at e
    omega
set_option maxHeartbeats 8000000 in
set_option maxRecDepth 100000 in
theorem after_fn (a0 a1 li cr m0 m1 w0 w1 r0 r1 lo hi c : Int) (w : World) :
    Calls Try.prog 14 #[.agg #[.int .i64 a0, .int .i64 a1, .int .i64 li, .int .i64 cr, .int .i64 m0, .int .i64 m1, .int .i64 w0, .int .i64 w1, .int .i64 r0, .int .i64 r1], .agg #[.int .i64 lo, .int .i64 hi], .int .i64 c] w fun e w' => ∃ v, e = .returned (.tuple #[v, .int .i64 (afterE ⟨⟨a0, a1⟩, li, cr, ⟨m0, m1⟩, ⟨w0, w1⟩, ⟨r0, r1⟩⟩ ⟨lo, hi⟩ c)]) ∧ Own w' w.heap.size 23 2 Sp.cells v (afterV ⟨⟨a0, a1⟩, li, cr, ⟨m0, m1⟩, ⟨w0, w1⟩, ⟨r0, r1⟩⟩ ⟨lo, hi⟩ c) ∧ Below w.heap.size w w' := by
  obtain ⟨w3, Hw3⟩ : ∃ w3, Hid (((w.alloc (.cells #[.int .i64 a0, .int .i64 a1, .int .i64 li, .int .i64 cr, .int .i64 m0, .int .i64 m1, .int .i64 w0, .int .i64 w1, .int .i64 r0, .int .i64 r1] 25)).alloc (.cells #[.int .i64 lo, .int .i64 hi] 23)).alloc (.cells #[.int .i64 c] 3) = w3) := ⟨_, hide rfl⟩
  have hB : Below w.heap.size w w3 := by rw [← Hw3.out]; exact ((below_new _ _).alloc (by simp) _).alloc (by simp; omega) _
  have hs : At w3 w.heap.size [.int .i64 a0, .int .i64 a1, .int .i64 li, .int .i64 cr, .int .i64 m0, .int .i64 m1, .int .i64 w0, .int .i64 w1, .int .i64 r0, .int .i64 r1] := by rw [← Hw3.out]; exact ((At.new w #[.int .i64 a0, .int .i64 a1, .int .i64 li, .int .i64 cr, .int .i64 m0, .int .i64 m1, .int .i64 w0, .int .i64 w1, .int .i64 r0, .int .i64 r1] _ w.heap.size rfl _ rfl).alloc _).alloc _
  have hw : At w3 (w.heap.size + 1) [.int .i64 lo, .int .i64 hi] := by rw [← Hw3.out]; exact (At.new (w.alloc _) #[.int .i64 lo, .int .i64 hi] _ (w.heap.size + 1) (by simp) _ rfl).alloc _
  have hc : At w3 (w.heap.size + 2) [.int .i64 c] := by rw [← Hw3.out]; exact At.new ((w.alloc _).alloc _) #[.int .i64 c] _ (w.heap.size + 2) (by simp) _ rfl
  have hl : Below w.heap.size w (((w.alloc (.cells #[.int .i64 a0, .int .i64 a1, .int .i64 li, .int .i64 cr, .int .i64 m0, .int .i64 m1, .int .i64 w0, .int .i64 w1, .int .i64 r0, .int .i64 r1] 25)).alloc (.cells #[.int .i64 lo, .int .i64 hi] 23)).alloc (.cells #[.int .i64 c] 3)) := by rw [Hw3.out]; exact hB
  have Hl := hide hl; clear hl
  have hck := hide (salt_check a0 a1 li cr m0 m1 w0 w1 r0 r1 w3)
  cases h0 : soOk ⟨⟨a0, a1⟩, li, cr, ⟨m0, m1⟩, ⟨w0, w1⟩, ⟨r0, r1⟩⟩
  · have hce : soCheck ⟨⟨a0, a1⟩, li, cr, ⟨m0, m1⟩, ⟨w0, w1⟩, ⟨r0, r1⟩⟩ = 60 := by simp [soCheck, h0]
    have hae : afterE ⟨⟨a0, a1⟩, li, cr, ⟨m0, m1⟩, ⟨w0, w1⟩, ⟨r0, r1⟩⟩ ⟨lo, hi⟩ c = 60 ∧ afterV ⟨⟨a0, a1⟩, li, cr, ⟨m0, m1⟩, ⟨w0, w1⟩, ⟨r0, r1⟩⟩ ⟨lo, hi⟩ c = [] := by simp [afterE, afterV, afterOk, h0]
    have Hae := hide hae; have Hce := hide hce
    clear hae hce h0
    go_enter Try.func14, Try.ntmps14
    go_wp2_with fail
    rw [Hw3.out]
    refine hck.out.mono ?_
    rintro e w' ⟨rfl, hb⟩
    rw [Hce.out]
    go_wp2
    go_ret2
    rw [Hae.out.1, Hae.out.2]
    exact ⟨_, rfl, Own.nil _ _ _ _ _, hB.trans (hb.mono hB.size)⟩
  · have hce : soCheck ⟨⟨a0, a1⟩, li, cr, ⟨m0, m1⟩, ⟨w0, w1⟩, ⟨r0, r1⟩⟩ = 0 := by simp [soCheck, h0]
    have hfit := So.fit_of h0
    have H0 := hide h0; have Hce := hide hce; have Hfit := hide hfit; clear h0 hce hfit
    cases h1 : Sp.ok 0 1000000000 ⟨lo, hi⟩
    · have hae : afterE ⟨⟨a0, a1⟩, li, cr, ⟨m0, m1⟩, ⟨w0, w1⟩, ⟨r0, r1⟩⟩ ⟨lo, hi⟩ c = 2 ∧ afterV ⟨⟨a0, a1⟩, li, cr, ⟨m0, m1⟩, ⟨w0, w1⟩, ⟨r0, r1⟩⟩ ⟨lo, hi⟩ c = [] := by simp [afterE, afterV, afterOk, H0.out, h1]
      have Hae := hide hae; have H1 := hide h1
      clear hae h1
      go_enter Try.func14, Try.ntmps14
      go_wp2_with fail
      rw [Hw3.out]
      refine hck.out.mono ?_
      rintro e w4 ⟨rfl, hb⟩
      rw [Hce.out]
      obtain ⟨z0, z1⟩ := (hw.below hb).c2
      go_wp2_with (go_at_call 49; refine (salt_proper _ _ _ _).mono ?_; rintro e w5 ⟨rfl, hb5⟩; rw [H1.out])
      go_ret2
      rw [Hae.out.1, Hae.out.2]
      exact ⟨_, rfl, Own.nil _ _ _ _ _, hB.trans ((hb.mono hB.size).trans (hb5.mono (by have := hb.size; have := hB.size; omega)))⟩
    · cases h2 : inB 0 100 c
      · have hae : afterE ⟨⟨a0, a1⟩, li, cr, ⟨m0, m1⟩, ⟨w0, w1⟩, ⟨r0, r1⟩⟩ ⟨lo, hi⟩ c = 2 ∧ afterV ⟨⟨a0, a1⟩, li, cr, ⟨m0, m1⟩, ⟨w0, w1⟩, ⟨r0, r1⟩⟩ ⟨lo, hi⟩ c = [] := by simp [afterE, afterV, afterOk, H0.out, h1, h2]
        have Hae := hide hae; have H1 := hide h1; have H2 := hide h2
        clear hae h1 h2
        go_enter Try.func14, Try.ntmps14
        go_wp2_with fail
        rw [Hw3.out]
        refine hck.out.mono ?_
        rintro e w4 ⟨rfl, hb⟩
        rw [Hce.out]
        obtain ⟨z0, z1⟩ := (hw.below hb).c2
        have hc4 := hc.below hb
        go_wp2_with (first | (go_at_call 49; refine (salt_proper _ _ _ _).mono ?_; rintro e w5 ⟨rfl, hb5⟩; rw [H1.out]; have hc5 := (hc4.below hb5).c1) | (go_at_call 50; refine (salt_from_one _ _ _ _ _ (by simp)).mono ?_; rintro e w6 ⟨rfl, hb6⟩; rw [H2.out]))
        go_ret2
        rw [Hae.out.1, Hae.out.2]
        exact ⟨_, rfl, Own.nil _ _ _ _ _, hB.trans ((hb.mono hB.size).trans ((hb5.mono (by have := hb.size; have := hB.size; omega)).trans (hb6.mono (by have := hb.size; have := hb5.size; have := hB.size; omega))))⟩
      · have hc01 : 0 ≤ c ∧ c ≤ 100 := by simpa [inB] using h2
        have hlh : 0 ≤ lo ∧ lo ≤ hi ∧ hi ≤ 1000000000 := by simp [Sp.ok] at h1; omega
        by_cases hz : c = 0
        · subst hz
          have hae : afterE ⟨⟨a0, a1⟩, li, cr, ⟨m0, m1⟩, ⟨w0, w1⟩, ⟨r0, r1⟩⟩ ⟨lo, hi⟩ 0 = 0 ∧ afterV ⟨⟨a0, a1⟩, li, cr, ⟨m0, m1⟩, ⟨w0, w1⟩, ⟨r0, r1⟩⟩ ⟨lo, hi⟩ 0 = [] := by simp [afterE, afterV, afterOk, H0.out, h1, h2, afterL]
          have Hae := hide hae; have H1 := hide h1; have H2 := hide h2
          clear hae h1 h2
          go_enter Try.func14, Try.ntmps14
          go_wp2_with fail
          rw [Hw3.out]
          refine hck.out.mono ?_
          rintro e w4 ⟨rfl, hb⟩
          rw [Hce.out]
          obtain ⟨z0, z1⟩ := (hw.below hb).c2
          have hc4 := hc.below hb
          go_wp2_with (first | (go_at_call 49; refine (salt_proper _ _ _ _).mono ?_; rintro e w5 ⟨rfl, hb5⟩; rw [H1.out]; have hc5 := (hc4.below hb5).c1; have hcc := hc4.below hb5) | (go_at_call 50; refine (salt_from_one _ _ _ _ _ (by simp)).mono ?_; rintro e w6 ⟨rfl, hb6⟩; rw [H2.out]; have hc6 := ((hcc.below hb6).alloc (.cells #[.slice none 0 0] 26)).c1))
          go_ret2
          rw [Hae.out.1, Hae.out.2]
          exact ⟨_, rfl, Own.nil _ _ _ _ _, (hB.trans ((hb.mono hB.size).trans ((hb5.mono (by have := hb.size; have := hB.size; omega)).trans (hb6.mono (by have := hb.size; have := hb5.size; have := hB.size; omega))))).alloc (by have := hb.size; have := hb5.size; have := hB.size; have := hb6.size; omega) _⟩
        · obtain ⟨n, rfl⟩ : ∃ n : Nat, c = n := ⟨c.toNat, by omega⟩
          have hn : 1 ≤ n ∧ n ≤ 100 := by omega
          have hae : afterE ⟨⟨a0, a1⟩, li, cr, ⟨m0, m1⟩, ⟨w0, w1⟩, ⟨r0, r1⟩⟩ ⟨lo, hi⟩ n = 0 ∧ afterV ⟨⟨a0, a1⟩, li, cr, ⟨m0, m1⟩, ⟨w0, w1⟩, ⟨r0, r1⟩⟩ ⟨lo, hi⟩ n = afterL ⟨⟨a0, a1⟩, li, cr, ⟨m0, m1⟩, ⟨w0, w1⟩, ⟨r0, r1⟩⟩ ⟨lo, hi⟩ n := by simp [afterE, afterV, afterOk, H0.out, h1, h2]
          have Hae := hide hae; have H1 := hide h1; have H2 := hide h2
          clear hae h1 h2 hc01 hz
          have hnz : ((n : Int) == 0) = false := by simp; omega
          refine (callsIn_wide (n := 9)).1 ?_
          refine callsIn_of_wp_marks Try.func14 rfl trivial ?_ rfl
          simp only [Try.ntmps14, List.size_toArray, List.length_cons, List.length_nil, Nat.reduceAdd, Nat.reduceSub, Array.replicate_succ, Array.replicate_zero, List.push_toArray, List.append_toArray, List.nil_append, List.cons_append]
          gi_wp2_with fail
          rw [Hw3.out]
          refine ⟨trivial, (callsIn_wide.2 hck.out).mono ?_⟩
          rintro e w4 ⟨rfl, hb⟩
          rw [Hce.out]
          obtain ⟨z0, z1⟩ := (hw.below hb).c2
          have hs4 := hs.below hb
          have hw4 := hw.below hb
          have hc4 := hc.below hb
          gi_wp2_with fail
          refine ⟨trivial, (callsIn_wide.2 (salt_proper _ _ _ _)).mono ?_⟩
          rintro e w5 ⟨rfl, hb5⟩
          rw [H1.out]
          have hc5 := (hc4.below hb5).c1
          gi_wp2_with fail
          refine ⟨trivial, (callsIn_wide.2 (salt_from_one _ _ _ _ _ (by simp))).mono ?_⟩
          rintro e w6 ⟨rfl, hb6⟩
          rw [H2.out]
          have hs6 := (hs4.below hb5).below hb6
          have hw6 := (hw4.below hb5).below hb6
          have hc6 := (hc4.below hb5).below hb6
          have hB6 : Below w.heap.size w w6 := hB.trans ((hb.mono hB.size).trans ((hb5.mono (by have := hb.size; have := hB.size; omega)).trans (hb6.mono (by have := hb.size; have := hb5.size; have := hB.size; omega))))
          obtain ⟨w7, Hw7⟩ : ∃ w7, Hid (w6.alloc (.cells #[.slice none 0 0] 26) = w7) := ⟨_, hide rfl⟩
          have hs7 : At (w6.alloc (.cells #[.slice none 0 0] 26)) w.heap.size [.int .i64 a0, .int .i64 a1, .int .i64 li, .int .i64 cr, .int .i64 m0, .int .i64 m1, .int .i64 w0, .int .i64 w1, .int .i64 r0, .int .i64 r1] := hs6.alloc _
          have hw7 : At (w6.alloc (.cells #[.slice none 0 0] 26)) (w.heap.size + 1) [.int .i64 lo, .int .i64 hi] := hw6.alloc _
          have hc7 : At (w6.alloc (.cells #[.slice none 0 0] 26)) (w.heap.size + 2) [.int .i64 n] := hc6.alloc _
          obtain ⟨p0, p1, p2, p3, p4, p5, p6, p7, p8, p9⟩ := hs7.c10
          obtain ⟨y0, y1⟩ := hw7.c2
          have x0 := hc7.c1
          gi_wp2_with fail
          rw [Hw7.out]
          have hz7 : w7.heap.size = w6.heap.size + 1 := by rw [← Hw7.out]; simp
          refine ⟨trivial, (callsIn_wide.2 (years_any a0 a1 li cr m0 m1 w0 w1 r0 r1 lo hi w7)).mono ?_⟩
          rintro e w8 ⟨rfl, hw8⟩
          have Hw8 := hide hw8; clear hw8
          have hB7 : Below w.heap.size w w7 := by rw [← Hw7.out]; exact hB6.alloc hB6.size _
          have hB8 : Below w.heap.size w w8 := by rw [Hw8.out]; exact (hB7.alloc hB7.size _).alloc (by have := hB7.size; simp; omega) _
          have hb78 : Below w7.heap.size w7 w8 := by rw [Hw8.out]; exact (below_new _ _).alloc (by simp) _
          have hz8 : w8.heap.size = w7.heap.size + 2 := by rw [Hw8.out]; simp
          have hc8 : At w8 (w.heap.size + 2) [.int .i64 n] := by
            rw [Hw7.out] at hc7
            exact hc7.below hb78
          have hl8 : w8.cell? ⟨w6.heap.size, 0, none⟩ = some (.slice none 0 0) := (hb78.cell (p := ⟨w6.heap.size, 0, none⟩) (by simp; omega)).trans (by rw [← Hw7.out]; exact cell_new _ _ _ _ _ rfl)
          have hf8 : w8.frozen? ⟨w6.heap.size, 0, none⟩ = false := (hb78.frozen (p := ⟨w6.heap.size, 0, none⟩) (by simp; omega)).trans (by rw [← Hw7.out]; exact At.frozen_new _ _ _ _ rfl 0)
          have hy0 : At w8 w7.heap.size [.int .i64 a0, .int .i64 a1, .int .i64 li, .int .i64 cr, .int .i64 m0, .int .i64 m1, .int .i64 w0, .int .i64 w1, .int .i64 r0, .int .i64 r1] := by rw [Hw8.out]; exact (At.new w7 #[.int .i64 a0, .int .i64 a1, .int .i64 li, .int .i64 cr, .int .i64 m0, .int .i64 m1, .int .i64 w0, .int .i64 w1, .int .i64 r0, .int .i64 r1] _ _ rfl _ rfl).alloc _
          have hy1 : At w8 (w7.heap.size + 1) [.int .i64 lo, .int .i64 hi] := by rw [Hw8.out]; exact At.new (w7.alloc _) #[.int .i64 lo, .int .i64 hi] _ _ (by simp) _ rfl
          have hyf : ∀ j : Nat, w8.frozen? ⟨w7.heap.size, j, none⟩ = false := fun j => by
            rw [Hw8.out]
            exact ((below_new (w7.alloc _) _).frozen (p := ⟨w7.heap.size, j, none⟩) (by simp)).trans (At.frozen_new w7 #[.int .i64 a0, .int .i64 a1, .int .i64 li, .int .i64 cr, .int .i64 m0, .int .i64 m1, .int .i64 w0, .int .i64 w1, .int .i64 r0, .int .i64 r1] 107 w7.heap.size rfl j)
          have hw6l : w.heap.size + 2 < w6.heap.size := hc6.1
          clear p0 p1 p2 p3 p4 p5 p6 p7 p8 p9 y0 y1 x0 hs7 hw7 hc7 z0 z1
          gi_wp2_with fail
          rw [hz7] at hy0 hy1
          simp only [hz7] at hyf
          refine wp_range (gf := 89) (lb := #[.pointer (some ⟨w6.heap.size + 1, 0, none⟩), .pointer (some ⟨w6.heap.size + 1 + 1, 0, none⟩)]) rfl (enters_of Try.func89 (by kernel_rfl) rfl)
            (years1_seq _ (by omega) (w6.heap.size + 1) (w6.heap.size + 1 + 1) (by omega) a0 a1 li cr m0 m1 w0 w1 r0 r1 lo hi n hn.2 w8 Hfit.out hlh.1 hlh.2.1 hlh.2.2 hy0 hyf hy1) (Kept.refl _ _) (fun _ => rfl) (fun b => b = w6.heap.size)
            (by intro b hb; omega) (by intro b hb; omega) (by intro b hb; omega)
            (fun k W => k < n ∧ AfInv w w6.heap.size (w.heap.size + 2) (w8.heap.size + 2) n (afterL ⟨⟨a0, a1⟩, li, cr, ⟨m0, m1⟩, ⟨w0, w1⟩, ⟨r0, r1⟩⟩ ⟨lo, hi⟩ k) W)
            (fun c k W => c = .exit 0 ∧ k = n ∧ AfInv w w6.heap.size (w.heap.size + 2) (w8.heap.size + 2) n (afterL ⟨⟨a0, a1⟩, li, cr, ⟨m0, m1⟩, ⟨w0, w1⟩, ⟨r0, r1⟩⟩ ⟨lo, hi⟩ k) W)
            (fun k a' W => ∃ p : Nat, w8.heap.size + 2 ≤ p ∧ At W p [.int .i64 (saltN ⟨⟨a0, a1⟩, li, cr, ⟨m0, m1⟩, ⟨w0, w1⟩, ⟨r0, r1⟩⟩ ⟨lo, hi⟩ (k + 1)).lo, .int .i64 (saltN ⟨⟨a0, a1⟩, li, cr, ⟨m0, m1⟩, ⟨w0, w1⟩, ⟨r0, r1⟩⟩ ⟨lo, hi⟩ (k + 1)).hi] ∧ a' = { tmps := #[.agg #[.int .i64 a0, .int .i64 a1, .int .i64 li, .int .i64 cr, .int .i64 m0, .int .i64 m1, .int .i64 w0, .int .i64 w1, .int .i64 r0, .int .i64 r1], .agg #[.int .i64 lo, .int .i64 hi], .int .i64 n, .pointer (some ⟨w.heap.size, 0, none⟩), .pointer (some ⟨w.heap.size + 1, 0, none⟩), .pointer (some ⟨w.heap.size + 1 + 1, 0, none⟩), .slice none 0 0, .int .i64 0, .int .i64 0, .pointer (some ⟨w6.heap.size, 0, none⟩), .pointer (some ⟨p, 0, none⟩), .agg #[.int .i64 a0, .int .i64 a1, .int .i64 li, .int .i64 cr, .int .i64 m0, .int .i64 m1, .int .i64 w0, .int .i64 w1, .int .i64 r0, .int .i64 r1], .int .i64 0, .int .i64 0, .bool false, undef, .agg #[.int .i64 lo, .int .i64 hi], .bool true, .bool false, .bool false, .int .i64 n, .slice (some ⟨w5.heap.size, 0, none⟩) 1 1, .bool true, .bool false, .bool false, .int .i64 n, .bool false, undef, .agg #[.int .i64 a0, .int .i64 a1, .int .i64 li, .int .i64 cr, .int .i64 m0, .int .i64 m1, .int .i64 w0, .int .i64 w1, .int .i64 r0, .int .i64 r1], .agg #[.int .i64 a0, .int .i64 a1, .int .i64 li, .int .i64 cr, .int .i64 m0, .int .i64 m1, .int .i64 w0, .int .i64 w1, .int .i64 r0, .int .i64 r1], .agg #[.int .i64 lo, .int .i64 hi], .func (.func 89) #[] #[.pointer (some ⟨w6.heap.size + 1, 0, none⟩), .pointer (some ⟨w6.heap.size + 1 + 1, 0, none⟩)], .agg #[.int .i64 (saltN ⟨⟨a0, a1⟩, li, cr, ⟨m0, m1⟩, ⟨w0, w1⟩, ⟨r0, r1⟩⟩ ⟨lo, hi⟩ (k + 1)).lo, .int .i64 (saltN ⟨⟨a0, a1⟩, li, cr, ⟨m0, m1⟩, ⟨w0, w1⟩, ⟨r0, r1⟩⟩ ⟨lo, hi⟩ (k + 1)).hi], undef, undef, undef, undef, undef, undef, undef, undef, undef], defers := [] })
            (fun k A B h hk => ⟨h.1, h.2.kept hk (by intro b hb; omega) (by omega) (by omega) (by intro b hb; omega)⟩)
            (fun c k A B h hk => ⟨h.1, h.2.1, h.2.2.kept hk (by intro b hb; omega) (by omega) (by omega) (by intro b hb; omega)⟩)
            (fun k a' A B h hk => by obtain ⟨p, hp, hat, ha⟩ := h; exact ⟨p, hp, hat.kept hk (by omega), ha⟩)
            (fun W hk hs => ⟨by omega, ⟨⟨_, Own.nil _ _ _ _ _, (hk.cell (p := ⟨w6.heap.size, 0, none⟩) trivial (by simp; omega)).trans hl8, (hk.frozen (p := ⟨w6.heap.size, 0, none⟩) trivial (by simp; omega)).trans hf8⟩, by have := hk.size; omega, hc8.kept hk trivial, hB8.trans (hk.below (fun _ _ => trivial) hB8.size), by omega⟩⟩)
            (fun _ W h => absurd h.1 (by omega)) ?assign ?body ?done ?stop ?panic
          case panic => intro k chain W h; exact h.elim
          case done => intro W h; exact absurd h.1 (by omega)
          case assign =>
            intro l k W hi hlen hk
            gi_wp2
            exact ⟨Kept.alloc _ _ _, ⟨hi.1, hi.2.kept (Kept.alloc (fun _ => True) _ _) (fun _ _ => trivial) trivial trivial (fun _ _ => trivial)⟩, W.heap.size, hlen, At.new W _ _ _ rfl _ rfl, rfl⟩
          case body =>
            rintro l k a' W ⟨hk, hinv⟩ ⟨p, hp, hat, rfl⟩ hlen hkn
            obtain ⟨v, hown, hcl, hfz⟩ := hinv.own
            have Hown := hide hown; have Hinv := hide hinv; have Hat := hide hat
            obtain ⟨x, hx⟩ : ∃ x : Sp, x = saltN ⟨⟨a0, a1⟩, li, cr, ⟨m0, m1⟩, ⟨w0, w1⟩, ⟨r0, r1⟩⟩ ⟨lo, hi⟩ (k + 1) := ⟨_, rfl⟩
            rw [← hx] at Hat ⊢
            have Hx := hide hx
            obtain ⟨e0, e1⟩ := Hat.out.c2
            have ec := Hinv.out.cnt.c1
            clear hown hinv hat hx
            have hr := hide (Rd.new (cells := Sp.cells) W #[.int .i64 x.lo, .int .i64 x.hi] 23 [x] rfl)
            by_cases hkn1 : k + 1 = n
            · have hq : (((k + 1 : Nat) : Int) == (n : Int)) = true := by simp; omega
              have Hk1 := hide hkn1
              clear hkn1
              gi_wp2_with (gi_at_builtin; refine appi_Sp rfl _ (.tmp 33) (.tmp 35) rfl (w8.heap.size + 2) v (afterL ⟨⟨a0, a1⟩, li, cr, ⟨m0, m1⟩, ⟨w0, w1⟩, ⟨r0, r1⟩⟩ ⟨lo, hi⟩ k) rfl (Hown.out.alloc _) _ _ 1 1 [x] rfl rfl hr.out (by rw [afterL_len]; simp; omega) (by simp; omega) ?_; intro vv wv hown1 hg1; have kv := kept_app Hown.out hg1; have Hst := hide (Hinv.out.step hown1 kv (by omega) (by omega) (by omega) (by omega)); have hcl1 := (kv.cell (p := ⟨w6.heap.size, 0, none⟩) (by show w6.heap.size < _; omega) Hinv.out.lt).trans hcl; have hfz1 := (kv.frozen (p := ⟨w6.heap.size, 0, none⟩) (by show w6.heap.size < _; omega) Hinv.out.lt).trans hfz; have ec1 := (kv.cell (p := ⟨w.heap.size + 2, 0, none⟩) (by show w.heap.size + 2 < _; omega) Hinv.out.cnt.1).trans ec; obtain ⟨A1, c1, rfl, hrd1⟩ := hown1.rd; rw [show (afterL ⟨⟨a0, a1⟩, li, cr, ⟨m0, m1⟩, ⟨w0, w1⟩, ⟨r0, r1⟩⟩ ⟨lo, hi⟩ k ++ [x]).length = k + 1 from by simp [afterL_len]] at Hst ⊢; clear kv hg1 hown1 hrd1)
              exact ⟨Hst.out.2, rfl, Hk1.out, by rw [afterL_succ, ← Hx.out]; exact Hst.out.1⟩
            · have hq : (((k + 1 : Nat) : Int) == (n : Int)) = false := by simp; omega
              gi_wp2_with (gi_at_builtin; refine appi_Sp rfl _ (.tmp 33) (.tmp 35) rfl (w8.heap.size + 2) v (afterL ⟨⟨a0, a1⟩, li, cr, ⟨m0, m1⟩, ⟨w0, w1⟩, ⟨r0, r1⟩⟩ ⟨lo, hi⟩ k) rfl (Hown.out.alloc _) _ _ 1 1 [x] rfl rfl hr.out (by rw [afterL_len]; simp; omega) (by simp; omega) ?_; intro vv wv hown1 hg1; have kv := kept_app Hown.out hg1; have Hst := hide (Hinv.out.step hown1 kv (by omega) (by omega) (by omega) (by omega)); have hcl1 := (kv.cell (p := ⟨w6.heap.size, 0, none⟩) (by show w6.heap.size < _; omega) Hinv.out.lt).trans hcl; have hfz1 := (kv.frozen (p := ⟨w6.heap.size, 0, none⟩) (by show w6.heap.size < _; omega) Hinv.out.lt).trans hfz; have ec1 := (kv.cell (p := ⟨w.heap.size + 2, 0, none⟩) (by show w.heap.size + 2 < _; omega) Hinv.out.cnt.1).trans ec; obtain ⟨A1, c1, rfl, hrd1⟩ := hown1.rd; rw [show (afterL ⟨⟨a0, a1⟩, li, cr, ⟨m0, m1⟩, ⟨w0, w1⟩, ⟨r0, r1⟩⟩ ⟨lo, hi⟩ k ++ [x]).length = k + 1 from by simp [afterL_len]] at Hst ⊢; clear kv hg1 hown1 hrd1)
              exact ⟨Hst.out.2, by omega, by rw [afterL_succ, ← Hx.out]; exact Hst.out.1⟩
          case stop =>
            rintro c k W hkN ⟨rfl, hkn, hinv⟩ hD
            obtain ⟨v, hown, hcl, hfz⟩ := hinv.own
            rw [hkn] at hown hinv
            have Hown := hide hown; have Hinv := hide hinv
            clear hown hinv hkn
            gi_wp2
            refine ⟨by simp, .inl ⟨_, _, rfl, run_takeDeferred hD, ?_⟩⟩
            refine ⟨_, results_tmp2 rfl _ _ _, ?_⟩
            rw [Hae.out.1, Hae.out.2]
            exact ⟨v, rfl, (Hown.out.keptR (Kept.putObj W _ _) (fun b hb => by omega)).mono (by omega), Hinv.out.bl.trans ((Kept.putObj W _ _).below (fun b hb => by omega) Hinv.out.bl.size)⟩
end Go.Proofs.Ytmbhnjpaieimbaa
