/- Channel: sums of spans, by contract. -/
import Derived.Test.YtmbhnjpaieimbaaW2
set_option linter.unusedVariables false
set_option linter.unusedSimpArgs false
namespace Go.Proofs.Ytmbhnjpaieimbaa
open Go.RowKit Go.Shelf
attribute [local go_sem ↓] Go.wp_at_zero Go.wp_at_succ
def addS (a b : Sp) : Sp := ⟨a.lo + b.lo, a.hi + b.hi⟩
def sumS (s : Sp) (xs : List Sp) : Sp := xs.foldl addS s
theorem sumS_snoc {s : Sp} {xs : List Sp} {k : Nat} {x : Sp} (h : xs[k]? = some x) : sumS s (xs.take (k + 1)) = addS (sumS s (xs.take k)) x := by
  unfold sumS
  rw [List.take_add_one, h]
  simp
/-- A running sum that no round overflows. -/
theorem sumS_bd {s : Sp} {xs : List Sp} {M : Int} (h0 : 0 ≤ s.lo ∧ s.lo ≤ M) (h1 : 0 ≤ s.hi ∧ s.hi ≤ M) (hx : ∀ x ∈ xs, amts x) (k : Nat) (hk : k ≤ xs.length) :
    (0 ≤ (sumS s (xs.take k)).lo ∧ (sumS s (xs.take k)).lo ≤ M + k * 1000000000000) ∧ (0 ≤ (sumS s (xs.take k)).hi ∧ (sumS s (xs.take k)).hi ≤ M + k * 1000000000000) := by
  induction k with
  | zero => simp [sumS]; omega
  | succ k ih =>
    obtain ⟨h2, h3⟩ := ih (by omega)
    have hg : xs[k]? = some xs[k] := List.getElem?_eq_getElem (by omega)
    obtain ⟨⟨a, b⟩, c, d⟩ := hx _ (List.getElem_mem (by omega : k < xs.length))
    rw [sumS_snoc hg]
    simp only [addS]
    omega
/-- What the loop of sum finds. -/
structure SC (w W : World) (b : Nat) (s : Sp) (r : Nat) : Prop where
  a1 : At W b [.int .i64 s.lo, .int .i64 s.hi]
  f1 : ∀ j : Nat, W.frozen? ⟨b, j, none⟩ = false
  rr : At W r [.int .i64 0, .int .i64 0]
  fz : ∀ j : Nat, W.frozen? ⟨r, j, none⟩ = false
  bl : Below w.heap.size w W
  n1 : b ≠ r
  lb : w.heap.size ≤ b
  le : w.heap.size ≤ r
theorem SC.keep {w W W' : World} {b r : Nat} {s : Sp} (h : SC w W b s r) (hb : Below W.heap.size W W') : SC w W' b s r :=
  ⟨h.a1.below hb, fun j => (hb.frozen (p := ⟨_, j, none⟩) h.a1.1).trans (h.f1 j), h.rr.below hb, fun j => (hb.frozen (p := ⟨_, j, none⟩) h.rr.1).trans (h.fz j), h.bl.trans (hb.mono h.bl.size), h.n1, h.lb, h.le⟩
theorem SC.set {w W : World} {b r : Nat} {s : Sp} (h : SC w W b s r) (x y : Int) : SC w ((W.setCell ⟨b, 0, none⟩ (.int .i64 x)).setCell ⟨b, 1, none⟩ (.int .i64 y)) b ⟨x, y⟩ r := by
  refine ⟨?_, fun j => ?_, (h.rr.other _ _ (Ne.symm h.n1)).other _ _ (Ne.symm h.n1), fun j => ?_, (h.bl.setCell h.lb _).setCell h.lb _, h.n1, h.lb, h.le⟩
  · have h1 := (h.a1.set (j := 0) (.int .i64 x) (by simp)).set (j := 1) (.int .i64 y) (by simp)
    simpa using h1
  · rw [World.frozen?_setCell, World.frozen?_setCell]; exact h.f1 j
  · rw [World.frozen?_setCell, World.frozen?_setCell]; exact h.fz j
theorem sc_new (w : World) (a b : Int) (t1 t2 : TypeId) : SC w ((w.alloc (.cells #[.int .i64 a, .int .i64 b] t1)).alloc (.cells #[.int .i64 0, .int .i64 0] t2)) w.heap.size ⟨a, b⟩ (w.heap.size + 1) := by
  refine ⟨(At.new w _ t1 _ rfl _ rfl).alloc _, fun j => ?_, At.new _ _ t2 _ (by simp) _ rfl, fun j => At.frozen_new _ _ t2 _ (by simp) j, (below_new w _).alloc (by simp) _, by omega, by omega, by omega⟩
  exact ((below_new _ _).frozen (p := ⟨w.heap.size, j, none⟩) (by simp)).trans (At.frozen_new _ _ t1 _ rfl j)
set_option maxHeartbeats 4000000 in
set_option maxRecDepth 100000 in
theorem sum_any (a0 b0 : Int) (A : Option Addr) (n c : Nat) (xs : List Sp) (w : World) (hr : Rd w w.heap.size Sp.cells A xs) (hn : n = xs.length) (hn2 : n ≤ 1000) (h0 : 0 ≤ a0 ∧ a0 ≤ 1000000000000000) (h1 : 0 ≤ b0 ∧ b0 ≤ 1000000000000000) (hx : ∀ x ∈ xs, amts x) :
    Calls Try.prog 123 #[.agg #[.int .i64 a0, .int .i64 b0], .slice A n c] w fun e w' => e = .returned (.agg #[.int .i64 (sumS ⟨a0, b0⟩ xs).lo, .int .i64 (sumS ⟨a0, b0⟩ xs).hi]) ∧ Below w.heap.size w w' := by
  have Hr := hide hr; have Hn := hide hn
  have Hbd := hide (fun k hk => sumS_bd (s := ⟨a0, b0⟩) (xs := xs) (M := 1000000000000000) h0 h1 hx k hk)
  have Hx := hide hx
  clear hr hn hx
  have hS := sc_new w a0 b0 23 23
  go_enter Try.func123, Try.ntmps123
  go_wp2_with fail
  go_loopw [9] (fun i wr => ∃ k : Nat, k ≤ n ∧ i = .int .i64 k ∧ SC w wr w.heap.size (sumS ⟨a0, b0⟩ (xs.take k)) (w.heap.size + 1)) (fun i _ => n - (intOf i).toNat)
  case atStart => exact ⟨0, by omega, rfl, hS⟩
  case round =>
    clear hS
    obtain ⟨k, hk, rfl, hS⟩ := hrel
    obtain ⟨B1, B2⟩ := Hbd.out k (by have := Hn.out; omega)
    obtain ⟨s, hs⟩ : ∃ s, s = sumS ⟨a0, b0⟩ (xs.take k) := ⟨_, rfl⟩
    rw [← hs] at B1 B2 hS
    obtain ⟨lo, hi⟩ := s
    dsimp only at B1 B2
    have Hs := hide hs; clear hs
    by_cases hlt : k < n
    · obtain ⟨b, off, x0, x1, rfl, hbB, hxk, c0, c1⟩ := Hr.out.sp (i := k) (by have := Hn.out; omega)
      have hxa := Hx.out _ (List.mem_of_getElem? hxk)
      obtain ⟨⟨x2, x3⟩, x4, x5⟩ := hxa
      dsimp only at x2 x3 x4 x5
      have hcb := hS.bl
      have c0 := (hcb.cell (p := ⟨b, off + k * 2, none⟩) hbB).trans c0
      have c1 := (hcb.cell (p := ⟨b, off + k * 2 + 1, none⟩) hbB).trans c1
      have hi0 : (0 : Int) ≤ (k : Int) := by omega
      have hi1 : (k : Int) < (n : Int) := by omega
      obtain ⟨q0, q1⟩ := hS.a1.c2
      have y0 := hS.f1 0
      have y1 := hS.f1 1
      have hlb := hS.a1.1
      go_wp2_with fail
      refine ⟨⟨k + 1, by omega, by go_num, ?_⟩, by simp [intOf]; omega⟩
      have hz := (hS.set (lo + x0) (hi + x1)).keep (below_new _ (.cells #[.int .i64 x0, .int .i64 x1] 23))
      rw [sumS_snoc hxk, ← Hs.out]
      exact hz
    · obtain rfl : k = n := by omega
      obtain ⟨q0, q1⟩ := hS.a1.c2
      obtain ⟨p0, p1⟩ := hS.rr.c2
      have y0 := hS.fz 0
      have y1 := hS.fz 1
      obtain ⟨k0, k1⟩ := two_set _ _ (.int .i64 lo) (.int .i64 hi) p0 p1
      go_wp2
      refine bodyPost_ret (by simp [results, Try.results123, go_sem, k0, k1]; try rfl) rfl ⟨?_, (hS.bl.setCell hS.le _).setCell hS.le _⟩
      have hz := Hs.out
      rw [Hn.out, List.take_length] at hz
      rw [← hz]
end Go.Proofs.Ytmbhnjpaieimbaa
