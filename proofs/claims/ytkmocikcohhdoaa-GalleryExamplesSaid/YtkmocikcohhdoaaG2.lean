/- Gallery and its reference: small functions without loops, by contracts. -/
import Derived.Test.YtkmocikcohhdoaaProg
import Derived.Test.YtkmocikcohhdoaaBase
set_option linter.unusedVariables false
set_option linter.unusedSimpArgs false
namespace Go.Proofs.Ytkmocikcohhdoaa
open Go.RowKit Go.Shelf

/-- A span that is not in order from 0 to a number. -/
def Sp.bad (hi : Int) (s : Sp) : Bool := decide (s.lo < 0) || decide (s.hi < s.lo) || decide (hi < s.hi)
def Sp.ok (lo hi : Int) (s : Sp) : Bool := decide (lo ≤ s.lo ∧ s.lo ≤ s.hi) && decide (s.hi ≤ hi)
def inB (lo hi n : Int) : Bool := decide (lo ≤ n) && decide (n ≤ hi)

set_option maxHeartbeats 400000 in
theorem from_any (lo hi n : Int) (w : World) :
    Calls Try.prog 52 #[.int .i64 lo, .int .i64 hi, .int .i64 n] w fun e w' => e = .returned (.bool (inB lo hi n)) ∧ w = w' := by
  by_cases h : lo ≤ n
  all_goals
    go_enter Try.func52, Try.ntmps52
    go_wp2
    go_ret
    exact ⟨by first | (simp [inB, h]; done) | (simp [inB, h]; omega), rfl⟩

set_option maxHeartbeats 400000 in
theorem within_any (lo hi n : Int) (w : World) :
    Calls Try.prog 55 #[.int .i64 n, .int .i64 lo, .int .i64 hi] w fun e w' => e = .returned (.bool (inB lo hi n)) ∧ w = w' := by
  by_cases h : lo ≤ n
  all_goals
    go_enter Try.func55, Try.ntmps55
    go_wp2
    go_ret
    exact ⟨by first | (simp [inB, h]; done) | (simp [inB, h]; omega), rfl⟩

set_option maxHeartbeats 400000 in
theorem spanned_any (a b lo hi : Int) (w : World) :
    Calls Try.prog 40 #[.agg #[.int .i64 a, .int .i64 b], .int .i64 lo, .int .i64 hi] w fun e w' => e = .returned (.bool (Sp.ok lo hi ⟨a, b⟩)) ∧ Below w.heap.size w w' := by
  cases h : inB lo b a
  all_goals
    have H := hide h; clear h
    go_enter Try.func40, Try.ntmps40
    go_wp2_with (go_at_call 55; refine (within_any _ _ _ _).mono ?_; rintro e w' ⟨rfl, rfl⟩; rw [H.out])
    go_ret
    exact ⟨by have := H.out; simp [inB] at this; simp [Sp.ok]; omega, (Below.refl _ _).alloc (Nat.le_refl _) _⟩

set_option maxHeartbeats 400000 in
theorem small_any (A A' : Option Addr) (n c n' c' : Nat) (w : World) (hn : n ≤ 9223372036854775807) (hn' : n' ≤ 9223372036854775807) :
    Calls Try.prog 14 #[.slice A n c, .slice A' n' c'] w fun e w' => e = .returned (.bool (decide (n ≤ 20) && decide (n' ≤ 50))) ∧ w = w' := by
  by_cases h : n ≤ 20
  all_goals
    go_enter Try.func14, Try.ntmps14
    go_wp2
    go_ret
    exact ⟨by first | (simp [h]; done) | (simp [h]; omega), rfl⟩

set_option maxHeartbeats 400000 in
theorem proper1_any (lo hi m : Int) (p : Nat) (w : World) (hp : w.cell? ⟨p, 0, none⟩ = some (.int .i64 m)) (hs : p < w.heap.size) :
    Calls Try.prog 84 #[.agg #[.int .i64 lo, .int .i64 hi], .pointer (some ⟨p, 0, none⟩)] w fun e w' => e = .returned (.bool (Sp.bad m ⟨lo, hi⟩)) ∧ Below w.heap.size w w' := by
  by_cases h : lo < 0
  · go_enter Try.func84, Try.ntmps84
    go_wp2
    go_ret
    exact ⟨by simp [Sp.bad, h], (Below.refl _ _).alloc (Nat.le_refl _) _⟩
  · by_cases h2 : hi < lo
    all_goals
      go_enter Try.func84, Try.ntmps84
      go_wp2
      go_ret
      exact ⟨by first | (simp [Sp.bad, h2]; done) | (simp [Sp.bad, h2]; omega), (Below.refl _ _).alloc (Nat.le_refl _) _⟩

end Go.Proofs.Ytkmocikcohhdoaa
