/- Salt and its reference: what is valid, by contracts. -/
import Derived.Test.YtmbhnjpaieimbaaC1
set_option linter.unusedVariables false
set_option linter.unusedSimpArgs false
namespace Go.Proofs.Ytmbhnjpaieimbaa
open Go.RowKit Go.Shelf
set_option maxHeartbeats 400000 in
theorem salt_from1 (x lo hi : Int) (p q : Nat) (w : World) (hp : w.cell? ⟨p, 0, none⟩ = some (.int .i64 lo)) (hq : w.cell? ⟨q, 0, none⟩ = some (.int .i64 hi)) :
    Calls Try.prog 88 #[.int .i64 x, .pointer (some ⟨p, 0, none⟩), .pointer (some ⟨q, 0, none⟩)] w fun e w' => e = .returned (.bool (outB lo hi x)) ∧ Below w.heap.size w w' := by
  by_cases h : x < lo
  all_goals
    go_enter Try.func88, Try.ntmps88
    go_wp2
    go_ret
    exact ⟨by first | (simp [outB, h]; done) | (simp [outB, h]; omega), Below.refl _ _⟩

theorem enters_salt_from1 : ∀ args w, (callFunc 88 args).run Try.prog w = .ok (.enter 88 args) w := enters_of Try.func88 (by kernel_rfl) rfl

set_option maxHeartbeats 400000 in
/-- from: all are from lo to hi. -/
theorem salt_from (lo hi : Int) (A : Option Addr) (xs : List Int) (n c : Nat) (w : World) (hn : n = xs.length) (hm : n ≤ 9223372036854775807) (hx : Rd w w.heap.size icell A xs) :
    Calls Try.prog 50 #[.int .i64 lo, .int .i64 hi, .slice A n c] w fun e w' => e = .returned (.bool (!(anyOut lo hi xs))) ∧ Below w.heap.size w w' := by
  have hb1 : Below w.heap.size w (w.alloc (.cells #[.int .i64 lo] 3)) := below_new _ _
  have hc1 : (w.alloc (.cells #[.int .i64 lo] 3)).cell? ⟨w.heap.size, 0, none⟩ = some (.int .i64 lo) := cell_new _ _ _ _ _ rfl
  obtain ⟨w1, Hw1⟩ : ∃ w1, Hid (w.alloc (.cells #[.int .i64 lo] 3) = w1) := ⟨_, hide rfl⟩
  rw [Hw1.out] at hb1 hc1
  have hs1 : w1.heap.size = w.heap.size + 1 := by rw [← Hw1.out]; simp
  have hb2 : Below w1.heap.size w1 (w1.alloc (.cells #[.int .i64 hi] 3)) := below_new _ _
  have hc2 : (w1.alloc (.cells #[.int .i64 hi] 3)).cell? ⟨w1.heap.size, 0, none⟩ = some (.int .i64 hi) := cell_new _ _ _ _ _ rfl
  have hc1' := (hb2.cell (p := ⟨w.heap.size, 0, none⟩) (by simp; omega)).trans hc1
  have hb3 := hb1.trans (hb2.mono hb1.size)
  have H := hide (containsfunc_int 88 #[.pointer (some ⟨w.heap.size, 0, none⟩), .pointer (some ⟨w1.heap.size, 0, none⟩)] (outB lo hi) A xs n c (w1.alloc (.cells #[.int .i64 hi] 3)) hn hm enters_salt_from1
    ((hx.below hb3).more hb3.size)
    (fun x w' _ hb => salt_from1 x lo hi w.heap.size w1.heap.size w' ((hb.cell (p := ⟨w.heap.size, 0, none⟩) (by simp; omega)).trans hc1') ((hb.cell (p := ⟨w1.heap.size, 0, none⟩) (by simp)).trans hc2)))
  rw [hs1] at H
  have Hb := hide hb3
  clear hx hn hc1 hc2 hc1' hb1 hb2 hb3
  go_enter Try.func50, Try.ntmps50
  go_wp2_with fail
  rw [Hw1.out]
  refine H.out.mono ?_
  rintro e w' ⟨rfl, hb⟩
  go_wp2
  go_ret
  exact ⟨rfl, Hb.out.trans (hb.mono Hb.out.size)⟩

theorem salt_one_in (lo hi x : Int) : (!(anyOut lo hi [x])) = inB lo hi x := by
  rw [Bool.eq_iff_iff]; simp [anyOut, outB, inB]
theorem salt_two_in (lo hi x y : Int) : (!(anyOut lo hi [x, y])) = (inB lo hi x && inB lo hi y) := by
  rw [Bool.eq_iff_iff]; simp [anyOut, outB, inB]
/-- from of one number, of two. -/
theorem salt_from_one (lo hi x : Int) (w1 : World) (p : Nat) (hp : p = w1.heap.size) : Calls Try.prog 50 #[.int .i64 lo, .int .i64 hi, .slice (some ⟨p, 0, none⟩) 1 1] (w1.alloc (.cells #[.int .i64 x] 3)) fun e w' => e = .returned (.bool (inB lo hi x)) ∧ Below w1.heap.size w1 w' := by
  subst hp
  refine (salt_from lo hi _ [x] 1 1 _ rfl (by omega) (by simpa using Rd.new (cells := icell) w1 #[.int .i64 x] 3 [x] rfl)).mono ?_
  rintro e w' ⟨rfl, hb⟩
  exact ⟨ret_bool (salt_one_in lo hi x), (below_new w1 _).trans (hb.mono (by simp))⟩
theorem salt_from_two (lo hi x y : Int) (w1 : World) (p : Nat) (hp : p = w1.heap.size) : Calls Try.prog 50 #[.int .i64 lo, .int .i64 hi, .slice (some ⟨p, 0, none⟩) 2 2] (w1.alloc (.cells #[.int .i64 x, .int .i64 y] 3)) fun e w' => e = .returned (.bool (inB lo hi x && inB lo hi y)) ∧ Below w1.heap.size w1 w' := by
  subst hp
  refine (salt_from lo hi _ [x, y] 2 2 _ rfl (by omega) (by simpa using Rd.new (cells := icell) w1 #[.int .i64 x, .int .i64 y] 3 [x, y] rfl)).mono ?_
  rintro e w' ⟨rfl, hb⟩
  exact ⟨ret_bool (salt_two_in lo hi x y), (below_new w1 _).trans (hb.mono (by simp))⟩

set_option maxHeartbeats 400000 in
/-- proper: in order, from 0 to a number. -/
theorem salt_proper (lo hi m : Int) (w : World) :
    Calls Try.prog 49 #[.agg #[.int .i64 lo, .int .i64 hi], .int .i64 m] w fun e w' => e = .returned (.bool (Sp.ok 0 m ⟨lo, hi⟩)) ∧ Below w.heap.size w w' := by
  by_cases h : lo ≤ hi
  · have hb0 : Below w.heap.size w (w.alloc (.cells #[.int .i64 lo, .int .i64 hi] 23)) := below_new _ _
    go_enter Try.func49, Try.ntmps49
    go_wp2_with fail
    refine (salt_from_two 0 m lo hi _ _ (by simp)).mono ?_
    rintro e w' ⟨rfl, hb⟩
    go_wp2
    go_ret
    exact ⟨ret_bool (by rw [Bool.eq_iff_iff]; simp [inB, Sp.ok]; omega), hb0.trans (hb.mono hb0.size)⟩
  · go_enter Try.func49, Try.ntmps49
    go_wp2
    go_ret
    exact ⟨ret_bool (by simp [Sp.ok]; omega), below_new _ _⟩


set_option maxHeartbeats 400000 in
theorem aflajref06_within (lo hi n : Int) (w : World) :
    Calls Try.prog 52 #[.int .i64 n, .int .i64 lo, .int .i64 hi] w fun e w' => e = .returned (.bool (inB lo hi n)) ∧ w = w' := by
  by_cases h : lo ≤ n
  all_goals
    go_enter Try.func52, Try.ntmps52
    go_wp2
    go_ret
    exact ⟨by first | (simp [inB, h]; done) | (simp [inB, h]; omega), rfl⟩


/-- A soil. -/
structure So where
  salt : Sp
  limit : Int
  crop : Int
  mineral : Sp
  wash : Sp
  rise : Sp
  deriving DecidableEq
def So.cells (s : So) : List Value := [.int .i64 s.salt.lo, .int .i64 s.salt.hi, .int .i64 s.limit, .int .i64 s.crop, .int .i64 s.mineral.lo, .int .i64 s.mineral.hi, .int .i64 s.wash.lo, .int .i64 s.wash.hi, .int .i64 s.rise.lo, .int .i64 s.rise.hi]
def soOk (s : So) : Bool := Sp.ok 0 100000000 s.salt && Sp.ok 0 100000000 s.rise && Sp.ok 0 100000 s.mineral && Sp.ok 0 100000 s.wash && inB 0 100000000 s.limit && inB 0 1000000000 s.crop
def soCheck (s : So) : Int := if soOk s then 0 else 60



set_option maxHeartbeats 4000000 in
theorem salt_check (a0 a1 li cr m0 m1 w0 w1 r0 r1 : Int) (w : World) :
    Calls Try.prog 18 #[.agg #[.int .i64 a0, .int .i64 a1, .int .i64 li, .int .i64 cr, .int .i64 m0, .int .i64 m1, .int .i64 w0, .int .i64 w1, .int .i64 r0, .int .i64 r1]] w fun e w' => e = .returned (.int .i64 (soCheck ⟨⟨a0, a1⟩, li, cr, ⟨m0, m1⟩, ⟨w0, w1⟩, ⟨r0, r1⟩⟩)) ∧ Below w.heap.size w w' := by
  have hB : Below w.heap.size w (w.alloc (.cells #[.int .i64 a0, .int .i64 a1, .int .i64 li, .int .i64 cr, .int .i64 m0, .int .i64 m1, .int .i64 w0, .int .i64 w1, .int .i64 r0, .int .i64 r1] 25)) := below_new _ _
  have hat := At.new w #[.int .i64 a0, .int .i64 a1, .int .i64 li, .int .i64 cr, .int .i64 m0, .int .i64 m1, .int .i64 w0, .int .i64 w1, .int .i64 r0, .int .i64 r1] 25 w.heap.size rfl [.int .i64 a0, .int .i64 a1, .int .i64 li, .int .i64 cr, .int .i64 m0, .int .i64 m1, .int .i64 w0, .int .i64 w1, .int .i64 r0, .int .i64 r1] rfl
  cases h0 : Sp.ok 0 100000000 ⟨a0, a1⟩
  ·
    have H0 := hide h0; clear h0
    go_enter Try.func18, Try.ntmps18
    go_wp2_with (first | (go_at_call 49; refine (salt_proper _ _ _ _).mono ?_; rintro e w' ⟨rfl, hb⟩; have hat := hat.below hb; have hB := hB.trans (hb.mono hB.size); obtain ⟨q0, q1, q2, q3, q4, q5, q6, q7, q8, q9⟩ := hat.c10; first | rw [H0.out]) | (go_at_call 50; refine (salt_from_one _ _ _ _ _ (by simp)).mono ?_; rintro e w' ⟨rfl, hb⟩; have hat := hat.below hb; have hB := hB.trans (hb.mono hB.size); obtain ⟨q0, q1, q2, q3, q4, q5, q6, q7, q8, q9⟩ := hat.c10; first | rw [H0.out]))
    go_ret
    exact ⟨ret_int (by have e0 := H0.out;  simp [soCheck, soOk, e0]), hB⟩
  ·
    have H0 := hide h0; clear h0
    cases h1 : Sp.ok 0 100000000 ⟨r0, r1⟩
    ·
      have H1 := hide h1; clear h1
      go_enter Try.func18, Try.ntmps18
      go_wp2_with (first | (go_at_call 49; refine (salt_proper _ _ _ _).mono ?_; rintro e w' ⟨rfl, hb⟩; have hat := hat.below hb; have hB := hB.trans (hb.mono hB.size); obtain ⟨q0, q1, q2, q3, q4, q5, q6, q7, q8, q9⟩ := hat.c10; first | rw [H0.out] | rw [H1.out]) | (go_at_call 50; refine (salt_from_one _ _ _ _ _ (by simp)).mono ?_; rintro e w' ⟨rfl, hb⟩; have hat := hat.below hb; have hB := hB.trans (hb.mono hB.size); obtain ⟨q0, q1, q2, q3, q4, q5, q6, q7, q8, q9⟩ := hat.c10; first | rw [H0.out] | rw [H1.out]))
      go_ret
      exact ⟨ret_int (by have e0 := H0.out; have e1 := H1.out; simp [soCheck, soOk, e0, e1]), hB⟩
    ·
      have H1 := hide h1; clear h1
      cases h2 : Sp.ok 0 100000 ⟨m0, m1⟩
      ·
        have H2 := hide h2; clear h2
        go_enter Try.func18, Try.ntmps18
        go_wp2_with (first | (go_at_call 49; refine (salt_proper _ _ _ _).mono ?_; rintro e w' ⟨rfl, hb⟩; have hat := hat.below hb; have hB := hB.trans (hb.mono hB.size); obtain ⟨q0, q1, q2, q3, q4, q5, q6, q7, q8, q9⟩ := hat.c10; first | rw [H0.out] | rw [H1.out] | rw [H2.out]) | (go_at_call 50; refine (salt_from_one _ _ _ _ _ (by simp)).mono ?_; rintro e w' ⟨rfl, hb⟩; have hat := hat.below hb; have hB := hB.trans (hb.mono hB.size); obtain ⟨q0, q1, q2, q3, q4, q5, q6, q7, q8, q9⟩ := hat.c10; first | rw [H0.out] | rw [H1.out] | rw [H2.out]))
        go_ret
        exact ⟨ret_int (by have e0 := H0.out; have e1 := H1.out; have e2 := H2.out; simp [soCheck, soOk, e0, e1, e2]), hB⟩
      ·
        have H2 := hide h2; clear h2
        cases h3 : Sp.ok 0 100000 ⟨w0, w1⟩
        ·
          have H3 := hide h3; clear h3
          go_enter Try.func18, Try.ntmps18
          go_wp2_with (first | (go_at_call 49; refine (salt_proper _ _ _ _).mono ?_; rintro e w' ⟨rfl, hb⟩; have hat := hat.below hb; have hB := hB.trans (hb.mono hB.size); obtain ⟨q0, q1, q2, q3, q4, q5, q6, q7, q8, q9⟩ := hat.c10; first | rw [H0.out] | rw [H1.out] | rw [H2.out] | rw [H3.out]) | (go_at_call 50; refine (salt_from_one _ _ _ _ _ (by simp)).mono ?_; rintro e w' ⟨rfl, hb⟩; have hat := hat.below hb; have hB := hB.trans (hb.mono hB.size); obtain ⟨q0, q1, q2, q3, q4, q5, q6, q7, q8, q9⟩ := hat.c10; first | rw [H0.out] | rw [H1.out] | rw [H2.out] | rw [H3.out]))
          go_ret
          exact ⟨ret_int (by have e0 := H0.out; have e1 := H1.out; have e2 := H2.out; have e3 := H3.out; simp [soCheck, soOk, e0, e1, e2, e3]), hB⟩
        ·
          have H3 := hide h3; clear h3
          cases h4 : inB 0 100000000 li
          ·
            have H4 := hide h4; clear h4
            go_enter Try.func18, Try.ntmps18
            go_wp2_with (first | (go_at_call 49; refine (salt_proper _ _ _ _).mono ?_; rintro e w' ⟨rfl, hb⟩; have hat := hat.below hb; have hB := hB.trans (hb.mono hB.size); obtain ⟨q0, q1, q2, q3, q4, q5, q6, q7, q8, q9⟩ := hat.c10; first | rw [H0.out] | rw [H1.out] | rw [H2.out] | rw [H3.out] | rw [H4.out]) | (go_at_call 50; refine (salt_from_one _ _ _ _ _ (by simp)).mono ?_; rintro e w' ⟨rfl, hb⟩; have hat := hat.below hb; have hB := hB.trans (hb.mono hB.size); obtain ⟨q0, q1, q2, q3, q4, q5, q6, q7, q8, q9⟩ := hat.c10; first | rw [H0.out] | rw [H1.out] | rw [H2.out] | rw [H3.out] | rw [H4.out]))
            go_ret
            exact ⟨ret_int (by have e0 := H0.out; have e1 := H1.out; have e2 := H2.out; have e3 := H3.out; have e4 := H4.out; simp [soCheck, soOk, e0, e1, e2, e3, e4]), hB⟩
          ·
            have H4 := hide h4; clear h4
            cases h5 : inB 0 1000000000 cr
            all_goals
              have H5 := hide h5; clear h5
              go_enter Try.func18, Try.ntmps18
              go_wp2_with (first | (go_at_call 49; refine (salt_proper _ _ _ _).mono ?_; rintro e w' ⟨rfl, hb⟩; have hat := hat.below hb; have hB := hB.trans (hb.mono hB.size); obtain ⟨q0, q1, q2, q3, q4, q5, q6, q7, q8, q9⟩ := hat.c10; first | rw [H0.out] | rw [H1.out] | rw [H2.out] | rw [H3.out] | rw [H4.out] | rw [H5.out]) | (go_at_call 50; refine (salt_from_one _ _ _ _ _ (by simp)).mono ?_; rintro e w' ⟨rfl, hb⟩; have hat := hat.below hb; have hB := hB.trans (hb.mono hB.size); obtain ⟨q0, q1, q2, q3, q4, q5, q6, q7, q8, q9⟩ := hat.c10; first | rw [H0.out] | rw [H1.out] | rw [H2.out] | rw [H3.out] | rw [H4.out] | rw [H5.out]))
              go_ret
              exact ⟨ret_int (by have e0 := H0.out; have e1 := H1.out; have e2 := H2.out; have e3 := H3.out; have e4 := H4.out; have e5 := H5.out; simp [soCheck, soOk, e0, e1, e2, e3, e4, e5]), hB⟩

set_option maxHeartbeats 4000000 in
theorem ref06_check (a0 a1 li cr m0 m1 w0 w1 r0 r1 : Int) (w : World) :
    Calls Try.prog 19 #[.agg #[.int .i64 a0, .int .i64 a1, .int .i64 li, .int .i64 cr, .int .i64 m0, .int .i64 m1, .int .i64 w0, .int .i64 w1, .int .i64 r0, .int .i64 r1]] w fun e w' => e = .returned (.int .i64 (soCheck ⟨⟨a0, a1⟩, li, cr, ⟨m0, m1⟩, ⟨w0, w1⟩, ⟨r0, r1⟩⟩)) ∧ Below w.heap.size w w' := by
  have hB : Below w.heap.size w (w.alloc (.cells #[.int .i64 a0, .int .i64 a1, .int .i64 li, .int .i64 cr, .int .i64 m0, .int .i64 m1, .int .i64 w0, .int .i64 w1, .int .i64 r0, .int .i64 r1] 25)) := below_new _ _
  have hat := At.new w #[.int .i64 a0, .int .i64 a1, .int .i64 li, .int .i64 cr, .int .i64 m0, .int .i64 m1, .int .i64 w0, .int .i64 w1, .int .i64 r0, .int .i64 r1] 25 w.heap.size rfl [.int .i64 a0, .int .i64 a1, .int .i64 li, .int .i64 cr, .int .i64 m0, .int .i64 m1, .int .i64 w0, .int .i64 w1, .int .i64 r0, .int .i64 r1] rfl
  cases h0 : Sp.ok 0 100000000 ⟨a0, a1⟩
  ·
    have H0 := hide h0; clear h0
    go_enter Try.func19, Try.ntmps19
    go_wp2_with (first | (go_at_call 36; refine (spanned_any _ _ _ _ _).mono ?_; rintro e w' ⟨rfl, hb⟩; have hat := hat.below hb; have hB := hB.trans (hb.mono hB.size); obtain ⟨q0, q1, q2, q3, q4, q5, q6, q7, q8, q9⟩ := hat.c10; first | rw [H0.out]) | (go_at_call 52; refine (aflajref06_within _ _ _ _).mono ?_; rintro e w' ⟨rfl, rfl⟩; first | rw [H0.out]))
    go_ret
    exact ⟨ret_int (by have e0 := H0.out;  simp [soCheck, soOk, e0]), hB⟩
  ·
    have H0 := hide h0; clear h0
    cases h1 : inB 0 100000000 li
    ·
      have H1 := hide h1; clear h1
      go_enter Try.func19, Try.ntmps19
      go_wp2_with (first | (go_at_call 36; refine (spanned_any _ _ _ _ _).mono ?_; rintro e w' ⟨rfl, hb⟩; have hat := hat.below hb; have hB := hB.trans (hb.mono hB.size); obtain ⟨q0, q1, q2, q3, q4, q5, q6, q7, q8, q9⟩ := hat.c10; first | rw [H0.out] | rw [H1.out]) | (go_at_call 52; refine (aflajref06_within _ _ _ _).mono ?_; rintro e w' ⟨rfl, rfl⟩; first | rw [H0.out] | rw [H1.out]))
      go_ret
      exact ⟨ret_int (by have e0 := H0.out; have e1 := H1.out; simp [soCheck, soOk, e0, e1]), hB⟩
    ·
      have H1 := hide h1; clear h1
      cases h2 : inB 0 1000000000 cr
      ·
        have H2 := hide h2; clear h2
        go_enter Try.func19, Try.ntmps19
        go_wp2_with (first | (go_at_call 36; refine (spanned_any _ _ _ _ _).mono ?_; rintro e w' ⟨rfl, hb⟩; have hat := hat.below hb; have hB := hB.trans (hb.mono hB.size); obtain ⟨q0, q1, q2, q3, q4, q5, q6, q7, q8, q9⟩ := hat.c10; first | rw [H0.out] | rw [H1.out] | rw [H2.out]) | (go_at_call 52; refine (aflajref06_within _ _ _ _).mono ?_; rintro e w' ⟨rfl, rfl⟩; first | rw [H0.out] | rw [H1.out] | rw [H2.out]))
        go_ret
        exact ⟨ret_int (by have e0 := H0.out; have e1 := H1.out; have e2 := H2.out; simp [soCheck, soOk, e0, e1, e2]), hB⟩
      ·
        have H2 := hide h2; clear h2
        cases h3 : Sp.ok 0 100000 ⟨m0, m1⟩
        ·
          have H3 := hide h3; clear h3
          go_enter Try.func19, Try.ntmps19
          go_wp2_with (first | (go_at_call 36; refine (spanned_any _ _ _ _ _).mono ?_; rintro e w' ⟨rfl, hb⟩; have hat := hat.below hb; have hB := hB.trans (hb.mono hB.size); obtain ⟨q0, q1, q2, q3, q4, q5, q6, q7, q8, q9⟩ := hat.c10; first | rw [H0.out] | rw [H1.out] | rw [H2.out] | rw [H3.out]) | (go_at_call 52; refine (aflajref06_within _ _ _ _).mono ?_; rintro e w' ⟨rfl, rfl⟩; first | rw [H0.out] | rw [H1.out] | rw [H2.out] | rw [H3.out]))
          go_ret
          exact ⟨ret_int (by have e0 := H0.out; have e1 := H1.out; have e2 := H2.out; have e3 := H3.out; simp [soCheck, soOk, e0, e1, e2, e3]), hB⟩
        ·
          have H3 := hide h3; clear h3
          cases h4 : Sp.ok 0 100000 ⟨w0, w1⟩
          ·
            have H4 := hide h4; clear h4
            go_enter Try.func19, Try.ntmps19
            go_wp2_with (first | (go_at_call 36; refine (spanned_any _ _ _ _ _).mono ?_; rintro e w' ⟨rfl, hb⟩; have hat := hat.below hb; have hB := hB.trans (hb.mono hB.size); obtain ⟨q0, q1, q2, q3, q4, q5, q6, q7, q8, q9⟩ := hat.c10; first | rw [H0.out] | rw [H1.out] | rw [H2.out] | rw [H3.out] | rw [H4.out]) | (go_at_call 52; refine (aflajref06_within _ _ _ _).mono ?_; rintro e w' ⟨rfl, rfl⟩; first | rw [H0.out] | rw [H1.out] | rw [H2.out] | rw [H3.out] | rw [H4.out]))
            go_ret
            exact ⟨ret_int (by have e0 := H0.out; have e1 := H1.out; have e2 := H2.out; have e3 := H3.out; have e4 := H4.out; simp [soCheck, soOk, e0, e1, e2, e3, e4]), hB⟩
          ·
            have H4 := hide h4; clear h4
            cases h5 : Sp.ok 0 100000000 ⟨r0, r1⟩
            all_goals
              have H5 := hide h5; clear h5
              go_enter Try.func19, Try.ntmps19
              go_wp2_with (first | (go_at_call 36; refine (spanned_any _ _ _ _ _).mono ?_; rintro e w' ⟨rfl, hb⟩; have hat := hat.below hb; have hB := hB.trans (hb.mono hB.size); obtain ⟨q0, q1, q2, q3, q4, q5, q6, q7, q8, q9⟩ := hat.c10; first | rw [H0.out] | rw [H1.out] | rw [H2.out] | rw [H3.out] | rw [H4.out] | rw [H5.out]) | (go_at_call 52; refine (aflajref06_within _ _ _ _).mono ?_; rintro e w' ⟨rfl, rfl⟩; first | rw [H0.out] | rw [H1.out] | rw [H2.out] | rw [H3.out] | rw [H4.out] | rw [H5.out]))
              go_ret
              exact ⟨ret_int (by have e0 := H0.out; have e1 := H1.out; have e2 := H2.out; have e3 := H3.out; have e4 := H4.out; have e5 := H5.out; simp [soCheck, soOk, e0, e1, e2, e3, e4, e5]), hB⟩
end Go.Proofs.Ytmbhnjpaieimbaa
