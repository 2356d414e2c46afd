/- Gallery and its reference: least, most, comparisons, by contracts. -/
import Derived.Test.YtkmocikcohhdoaaProg
import Derived.Test.YtkmocikcohhdoaaBase
import Derived.Deep.QuietTactic
import Derived.BigQuiet
set_option linter.unusedVariables false
set_option linter.unusedSimpArgs false
namespace Go.Proofs.Ytkmocikcohhdoaa
open Go.RowKit Go.Shelf
attribute [local go_sem] ite_min ite_max

/-- What flows out of a reach at the least, at the most. -/
def leastF (r : Rc) (n : Int) : Int := max 0 (min n r.cap.lo - r.leak.hi) + r.gain.lo
def mostF (r : Rc) (n : Int) : Int := max 0 (min n r.cap.hi - r.leak.lo) + r.gain.hi

set_option maxHeartbeats 400000 in
theorem least_any (c0 c1 l0 l1 g0 g1 n : Int) (w : World) (h1 : 0 ≤ n ∧ n ≤ 1000000000) (h2 : 0 ≤ c0 ∧ c0 ≤ 1000000000) (h3 : 0 ≤ l1 ∧ l1 ≤ 1000000000) (h4 : 0 ≤ g0 ∧ g0 ≤ 1000000000) :
    Calls Try.prog 53 #[.agg #[.int .i64 c0, .int .i64 c1, .int .i64 l0, .int .i64 l1, .int .i64 g0, .int .i64 g1], .int .i64 n] w fun e w' => e = .returned (.int .i64 (leastF ⟨⟨c0, c1⟩, ⟨l0, l1⟩, ⟨g0, g1⟩⟩ n)) ∧ Below w.heap.size w w' := by
  obtain ⟨h1a, h1b⟩ := h1; obtain ⟨h2a, h2b⟩ := h2; obtain ⟨h3a, h3b⟩ := h3; obtain ⟨h4a, h4b⟩ := h4
  go_enter Try.func53, Try.ntmps53
  go_wp2
  all_goals (go_ret; exact ⟨ret_int (by simp only [leastF]; omega), below_new _ _⟩)

set_option maxHeartbeats 400000 in
theorem most_any (c0 c1 l0 l1 g0 g1 n : Int) (w : World) (h1 : 0 ≤ n ∧ n ≤ 1000000000) (h2 : 0 ≤ c1 ∧ c1 ≤ 1000000000) (h3 : 0 ≤ l0 ∧ l0 ≤ 1000000000) (h4 : 0 ≤ g1 ∧ g1 ≤ 1000000000) :
    Calls Try.prog 70 #[.agg #[.int .i64 c0, .int .i64 c1, .int .i64 l0, .int .i64 l1, .int .i64 g0, .int .i64 g1], .int .i64 n] w fun e w' => e = .returned (.int .i64 (mostF ⟨⟨c0, c1⟩, ⟨l0, l1⟩, ⟨g0, g1⟩⟩ n)) ∧ Below w.heap.size w w' := by
  obtain ⟨h1a, h1b⟩ := h1; obtain ⟨h2a, h2b⟩ := h2; obtain ⟨h3a, h3b⟩ := h3; obtain ⟨h4a, h4b⟩ := h4
  go_enter Try.func70, Try.ntmps70
  go_wp2
  all_goals (go_ret; exact ⟨ret_int (by simp only [mostF]; omega), below_new _ _⟩)

def cmpI (a b : Int) : Int := if a < b then -1 else if b < a then 1 else 0
set_option maxHeartbeats 400000 in
theorem cmp_any (a b : Int) (w : World) :
    Calls Try.prog 82 #[.int .i64 a, .int .i64 b] w fun e w' => e = .returned (.int .i64 (cmpI a b)) ∧ w = w' := by
  by_cases h : a < b
  · go_enter Try.func82, Try.ntmps82
    go_wp2
    go_ret
    exact ⟨by simp [cmpI, h], rfl⟩
  · by_cases h2 : b < a
    all_goals
      go_enter Try.func82, Try.ntmps82
      go_wp2
      go_ret
      exact ⟨ret_int (by unfold cmpI; split <;> (try split) <;> omega), rfl⟩

/-- Two lists of numbers, as slices.Compare compares them. -/
def cmpL : List Int → List Int → Int
  | [], [] => 0
  | [], _ :: _ => -1
  | _ :: _, [] => 1
  | a :: s, b :: t => if cmpI a b = 0 then cmpL s t else cmpI a b
theorem cmpL_step (a b : List Int) (k : Nat) (x y : Int) (hx : a[k]? = some x) (hy : b[k]? = some y) (h : cmpI x y = 0) : cmpL (a.drop k) (b.drop k) = cmpL (a.drop (k + 1)) (b.drop (k + 1)) := by
  obtain ⟨hk, rfl⟩ := List.getElem?_eq_some_iff.1 hx
  obtain ⟨hk', rfl⟩ := List.getElem?_eq_some_iff.1 hy
  rw [List.drop_eq_getElem_cons hk, List.drop_eq_getElem_cons hk', cmpL, if_pos h]
theorem cmpL_stop (a b : List Int) (k : Nat) (x y : Int) (hx : a[k]? = some x) (hy : b[k]? = some y) (h : cmpI x y ≠ 0) : cmpL (a.drop k) (b.drop k) = cmpI x y := by
  obtain ⟨hk, rfl⟩ := List.getElem?_eq_some_iff.1 hx
  obtain ⟨hk', rfl⟩ := List.getElem?_eq_some_iff.1 hy
  rw [List.drop_eq_getElem_cons hk, List.drop_eq_getElem_cons hk', cmpL, if_neg h]

set_option maxHeartbeats 1000000 in
theorem compare_any (A B : Option Addr) (xs ys : List Int) (n c m d : Nat) (w : World) (hn : n = xs.length) (hm : m = ys.length) (hn' : n ≤ 9223372036854775807) (hm' : m ≤ 9223372036854775807)
    (hx : Rd w w.heap.size icell A xs) (hy : Rd w w.heap.size icell B ys) :
    Calls Try.prog 54 #[.slice A n c, .slice B m d] w fun e w' => e = .returned (.int .i64 (cmpL xs ys)) ∧ w = w' := by
  have Hn := hide hn; have Hm := hide hm; have Hx := hide hx; have Hy := hide hy
  clear hn hm hx hy
  go_enter Try.func54, Try.ntmps54
  go_wp2_with fail
  go_loop [4, 11] (fun v i => ∃ k : Nat, k ≤ n ∧ k ≤ m ∧ i = .int .i64 k ∧ Hid (cmpL xs ys = cmpL (xs.drop k) (ys.drop k))) (fun _ i => n - (intOf i).toNat)
  case atStart => exact ⟨0, by omega, by omega, rfl, hide (by simp)⟩
  case round =>
    obtain ⟨k, hk, hk', rfl, hpre⟩ := hrel
    by_cases hlt : k < n
    · obtain ⟨b, off, x, rfl, hB, hxk, c0⟩ := Hx.out.int (i := k) (by have := Hn.out; omega)
      have Hxk := hide hxk; clear hxk
      by_cases hlt' : k < m
      · obtain ⟨b', off', y, rfl, hB', hyk, d0⟩ := Hy.out.int (i := k) (by have := Hm.out; omega)
        have Hyk := hide hyk; clear hyk
        by_cases h0 : cmpI x y = 0
        · have H0 := hide h0; clear h0
          go_wp2_with (go_at_call 82; refine (cmp_any _ _ _).mono ?_; rintro e w' ⟨rfl, rfl⟩; rw [H0.out])
          go_round
          case rel => exact ⟨k + 1, by omega, by omega, by go_num, hide (by rw [hpre.out, cmpL_step xs ys k x y Hxk.out Hyk.out H0.out])⟩
          case measure => simp [intOf]; omega
        · have H0 := hide h0
          have h0' : (cmpI x y == 0) = false := by simpa using h0
          have h0'' : (cmpI x y != 0) = true := by simpa using h0
          clear h0
          go_wp2_with (go_at_call 82; refine (cmp_any _ _ _).mono ?_; rintro e w' ⟨rfl, rfl⟩)
          go_ret
          exact ⟨by rw [hpre.out, cmpL_stop xs ys k x y Hxk.out Hyk.out H0.out]; rfl, rfl⟩
      · go_wp2
        go_ret
        exact ⟨by
          rw [hpre.out, List.drop_of_length_le (l := ys) (by have := Hm.out; omega), List.drop_eq_getElem_cons (l := xs) (by have := Hn.out; omega), cmpL]; rfl, rfl⟩
    · by_cases hlt' : k < m
      all_goals
        go_wp2
        go_ret
        refine ⟨?_, rfl⟩
        rw [hpre.out, List.drop_of_length_le (l := xs) (by have := Hn.out; omega)]
        first
          | (rw [List.drop_of_length_le (l := ys) (by have := Hm.out; omega), cmpL]; rfl)
          | (rw [List.drop_eq_getElem_cons (l := ys) (by have := Hm.out; omega), cmpL]; rfl)
end Go.Proofs.Ytkmocikcohhdoaa
