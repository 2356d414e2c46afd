/- The reference of the gallery: comparisons of lists, by contracts. -/
import Derived.Test.YtkmocikcohhdoaaProg
import Derived.Test.YtkmocikcohhdoaaBase
import Derived.Deep.QuietTactic
import Derived.BigQuiet
set_option linter.unusedVariables false
set_option linter.unusedSimpArgs false
namespace Go.Proofs.Ytkmocikcohhdoaa
open Go.RowKit Go.Shelf


theorem eqL_stop {α : Type} [DecidableEq α] {xs ys : List α} {k : Nat} {x y : α} (hx : xs[k]? = some x) (hy : ys[k]? = some y) (h : x ≠ y) : xs ≠ ys := by
  rintro rfl
  rw [hx] at hy
  exact h (Option.some.inj hy)
theorem eqL_snoc {α : Type} {xs ys : List α} {k : Nat} {x y : α} (hx : xs[k]? = some x) (hy : ys[k]? = some y) (h : x = y) (hp : xs.take k = ys.take k) : xs.take (k + 1) = ys.take (k + 1) := by
  rw [take_snoc hx, take_snoc hy, h, hp]



set_option maxHeartbeats 2000000 in
/-- aflaj/aflajref01.SameInts: whether two lists are one. -/
theorem same_int (A B : Option Addr) (xs ys : List Int) (n c m d : Nat) (w : World) (hn : n = xs.length) (hm : m = ys.length) (hn' : n ≤ 9223372036854775807) (hm' : m ≤ 9223372036854775807)
    (hx : Rd w w.heap.size icell A xs) (hy : Rd w w.heap.size icell B ys) :
    Calls Try.prog 17 #[.slice A n c, .slice B m d] w fun e w' => e = .returned (.bool (decide (xs = ys))) ∧ Below w.heap.size w w' := by
  have Hn := hide hn; have Hm := hide hm; have Hx := hide hx; have Hy := hide hy
  clear hn hm hx hy
  by_cases hnm : n = m
  · subst hnm
    go_enter Try.func17, Try.ntmps17
    go_wp2_with fail
    go_loopw [4, 5] (fun v i wr => ∃ k : Nat, k ≤ n ∧ i = .int .i64 k ∧ Below w.heap.size w wr ∧ Hid (xs.take k = ys.take k)) (fun _ i _ => n - (intOf i).toNat)
    case atStart => exact ⟨0, by omega, rfl, Below.refl _ _, hide (by simp)⟩
    case round =>
      obtain ⟨k, hk, rfl, hb, hpre⟩ := hrel
      by_cases hlt : k < n
      · obtain ⟨b, off, x0x, rfl, hB, hxk, hcx0⟩ := (Hx.out.below hb).int (i := k) (by have := Hn.out; omega)
        have Hxk := hide hxk; clear hxk
        obtain ⟨b', off', x0y, rfl, hB', hyk, hcy0⟩ := (Hy.out.below hb).int (i := k) (by have := Hm.out; omega)
        have Hyk := hide hyk; clear hyk
        by_cases e0 : x0x = x0y
        · subst e0
          go_wp2_with fail
          go_quiet (fail)
          go_wp2_with fail
          exact ⟨⟨k + 1, by omega, by go_num, below_drewN hb _, hide (eqL_snoc Hxk.out Hyk.out rfl hpre.out)⟩, by simp [intOf]; omega⟩
        · have h1 : (x0x == x0y) = false := by simpa using e0
          have h2 : (x0x != x0y) = true := by simpa using e0
          have H0 := hide e0; clear e0
          go_wp2_with fail
          go_quiet (fail)
          go_wp2_with fail
          go_ret
          exact ⟨ret_bool (by have := eqL_stop Hxk.out Hyk.out (by have := H0.out; simp [this]); simp [this]), below_drewN hb _⟩
      · go_wp2_with fail
        go_ret
        refine ⟨ret_bool ?_, hb⟩
        have h1 := hpre.out
        rw [List.take_of_length_le (by have := Hn.out; omega), List.take_of_length_le (by have := Hm.out; omega)] at h1
        simp [h1]
  · have h1 : ((n : Int) == (m : Int)) = false := by simp; omega
    have h2 : ((n : Int) != (m : Int)) = true := by simp; omega
    have Hnm := hide hnm; clear hnm
    go_enter Try.func17, Try.ntmps17
    go_wp2_with fail
    go_ret
    refine ⟨ret_bool ?_, Below.refl _ _⟩
    have h3 : xs ≠ ys := by
      rintro rfl
      exact Hnm.out (Hn.out.trans Hm.out.symm)
    simp [h3]


set_option maxHeartbeats 2000000 in
/-- aflaj/aflajref01.SameSpans: whether two lists are one. -/
theorem same_Sp (A B : Option Addr) (xs ys : List Sp) (n c m d : Nat) (w : World) (hn : n = xs.length) (hm : m = ys.length) (hn' : n ≤ 9223372036854775807) (hm' : m ≤ 9223372036854775807)
    (hx : Rd w w.heap.size Sp.cells A xs) (hy : Rd w w.heap.size Sp.cells B ys) :
    Calls Try.prog 25 #[.slice A n c, .slice B m d] w fun e w' => e = .returned (.bool (decide (xs = ys))) ∧ Below w.heap.size w w' := by
  have Hn := hide hn; have Hm := hide hm; have Hx := hide hx; have Hy := hide hy
  clear hn hm hx hy
  by_cases hnm : n = m
  · subst hnm
    go_enter Try.func25, Try.ntmps25
    go_wp2_with fail
    go_loopw [4, 5] (fun v i wr => ∃ k : Nat, k ≤ n ∧ i = .int .i64 k ∧ Below w.heap.size w wr ∧ Hid (xs.take k = ys.take k)) (fun _ i _ => n - (intOf i).toNat)
    case atStart => exact ⟨0, by omega, rfl, Below.refl _ _, hide (by simp)⟩
    case round =>
      obtain ⟨k, hk, rfl, hb, hpre⟩ := hrel
      by_cases hlt : k < n
      · obtain ⟨b, off, lox, hix, rfl, hB, hxk, hcx0, hcx1⟩ := (Hx.out.below hb).sp (i := k) (by have := Hn.out; omega)
        have Hxk := hide hxk; clear hxk
        obtain ⟨b', off', loy, hiy, rfl, hB', hyk, hcy0, hcy1⟩ := (Hy.out.below hb).sp (i := k) (by have := Hm.out; omega)
        have Hyk := hide hyk; clear hyk
        by_cases e0 : lox = loy
        · subst e0
          by_cases e1 : hix = hiy
          · subst e1
            go_wp2_with fail
            go_quiet (fail)
            go_wp2_with fail
            exact ⟨⟨k + 1, by omega, by go_num, below_drewN hb _, hide (eqL_snoc Hxk.out Hyk.out rfl hpre.out)⟩, by simp [intOf]; omega⟩
          · have h1 : (hix == hiy) = false := by simpa using e1
            have h2 : (hix != hiy) = true := by simpa using e1
            have H0 := hide e1; clear e1
            go_wp2_with fail
            go_quiet (fail)
            go_wp2_with fail
            go_ret
            exact ⟨ret_bool (by have := eqL_stop Hxk.out Hyk.out (by have := H0.out; simp [this]); simp [this]), below_drewN hb _⟩
        · have h1 : (lox == loy) = false := by simpa using e0
          have h2 : (lox != loy) = true := by simpa using e0
          have H0 := hide e0; clear e0
          go_wp2_with fail
          go_quiet (fail)
          go_wp2_with fail
          go_ret
          exact ⟨ret_bool (by have := eqL_stop Hxk.out Hyk.out (by have := H0.out; simp [this]); simp [this]), below_drewN hb _⟩
      · go_wp2_with fail
        go_ret
        refine ⟨ret_bool ?_, hb⟩
        have h1 := hpre.out
        rw [List.take_of_length_le (by have := Hn.out; omega), List.take_of_length_le (by have := Hm.out; omega)] at h1
        simp [h1]
  · have h1 : ((n : Int) == (m : Int)) = false := by simp; omega
    have h2 : ((n : Int) != (m : Int)) = true := by simp; omega
    have Hnm := hide hnm; clear hnm
    go_enter Try.func25, Try.ntmps25
    go_wp2_with fail
    go_ret
    refine ⟨ret_bool ?_, Below.refl _ _⟩
    have h3 : xs ≠ ys := by
      rintro rfl
      exact Hnm.out (Hn.out.trans Hm.out.symm)
    simp [h3]


set_option maxHeartbeats 2000000 in
/-- aflaj/aflajref02.SameReaches: whether two lists are one. -/
theorem same_Rc (A B : Option Addr) (xs ys : List Rc) (n c m d : Nat) (w : World) (hn : n = xs.length) (hm : m = ys.length) (hn' : n ≤ 9223372036854775807) (hm' : m ≤ 9223372036854775807)
    (hx : Rd w w.heap.size Rc.cells A xs) (hy : Rd w w.heap.size Rc.cells B ys) :
    Calls Try.prog 18 #[.slice A n c, .slice B m d] w fun e w' => e = .returned (.bool (decide (xs = ys))) ∧ Below w.heap.size w w' := by
  have Hn := hide hn; have Hm := hide hm; have Hx := hide hx; have Hy := hide hy
  clear hn hm hx hy
  by_cases hnm : n = m
  · subst hnm
    go_enter Try.func18, Try.ntmps18
    go_wp2_with fail
    go_loopw [4, 5] (fun v i wr => ∃ k : Nat, k ≤ n ∧ i = .int .i64 k ∧ Below w.heap.size w wr ∧ Hid (xs.take k = ys.take k)) (fun _ i _ => n - (intOf i).toNat)
    case atStart => exact ⟨0, by omega, rfl, Below.refl _ _, hide (by simp)⟩
    case round =>
      obtain ⟨k, hk, rfl, hb, hpre⟩ := hrel
      by_cases hlt : k < n
      · obtain ⟨b, off, c0x, c1x, l0x, l1x, g0x, g1x, rfl, hB, hxk, hcx0, hcx1, hcx2, hcx3, hcx4, hcx5⟩ := (Hx.out.below hb).rc (i := k) (by have := Hn.out; omega)
        have Hxk := hide hxk; clear hxk
        obtain ⟨b', off', c0y, c1y, l0y, l1y, g0y, g1y, rfl, hB', hyk, hcy0, hcy1, hcy2, hcy3, hcy4, hcy5⟩ := (Hy.out.below hb).rc (i := k) (by have := Hm.out; omega)
        have Hyk := hide hyk; clear hyk
        by_cases e0 : c0x = c0y
        · subst e0
          by_cases e1 : c1x = c1y
          · subst e1
            by_cases e2 : l0x = l0y
            · subst e2
              by_cases e3 : l1x = l1y
              · subst e3
                by_cases e4 : g0x = g0y
                · subst e4
                  by_cases e5 : g1x = g1y
                  · subst e5
                    go_wp2_with fail
                    go_quiet (fail)
                    go_wp2_with fail
                    exact ⟨⟨k + 1, by omega, by go_num, below_drewN hb _, hide (eqL_snoc Hxk.out Hyk.out rfl hpre.out)⟩, by simp [intOf]; omega⟩
                  · have h1 : (g1x == g1y) = false := by simpa using e5
                    have h2 : (g1x != g1y) = true := by simpa using e5
                    have H0 := hide e5; clear e5
                    go_wp2_with fail
                    go_quiet (fail)
                    go_wp2_with fail
                    go_ret
                    exact ⟨ret_bool (by have := eqL_stop Hxk.out Hyk.out (by have := H0.out; simp [this]); simp [this]), below_drewN hb _⟩
                · have h1 : (g0x == g0y) = false := by simpa using e4
                  have h2 : (g0x != g0y) = true := by simpa using e4
                  have H0 := hide e4; clear e4
                  go_wp2_with fail
                  go_quiet (fail)
                  go_wp2_with fail
                  go_ret
                  exact ⟨ret_bool (by have := eqL_stop Hxk.out Hyk.out (by have := H0.out; simp [this]); simp [this]), below_drewN hb _⟩
              · have h1 : (l1x == l1y) = false := by simpa using e3
                have h2 : (l1x != l1y) = true := by simpa using e3
                have H0 := hide e3; clear e3
                go_wp2_with fail
                go_quiet (fail)
                go_wp2_with fail
                go_ret
                exact ⟨ret_bool (by have := eqL_stop Hxk.out Hyk.out (by have := H0.out; simp [this]); simp [this]), below_drewN hb _⟩
            · have h1 : (l0x == l0y) = false := by simpa using e2
              have h2 : (l0x != l0y) = true := by simpa using e2
              have H0 := hide e2; clear e2
              go_wp2_with fail
              go_quiet (fail)
              go_wp2_with fail
              go_ret
              exact ⟨ret_bool (by have := eqL_stop Hxk.out Hyk.out (by have := H0.out; simp [this]); simp [this]), below_drewN hb _⟩
          · have h1 : (c1x == c1y) = false := by simpa using e1
            have h2 : (c1x != c1y) = true := by simpa using e1
            have H0 := hide e1; clear e1
            go_wp2_with fail
            go_quiet (fail)
            go_wp2_with fail
            go_ret
            exact ⟨ret_bool (by have := eqL_stop Hxk.out Hyk.out (by have := H0.out; simp [this]); simp [this]), below_drewN hb _⟩
        · have h1 : (c0x == c0y) = false := by simpa using e0
          have h2 : (c0x != c0y) = true := by simpa using e0
          have H0 := hide e0; clear e0
          go_wp2_with fail
          go_quiet (fail)
          go_wp2_with fail
          go_ret
          exact ⟨ret_bool (by have := eqL_stop Hxk.out Hyk.out (by have := H0.out; simp [this]); simp [this]), below_drewN hb _⟩
      · go_wp2_with fail
        go_ret
        refine ⟨ret_bool ?_, hb⟩
        have h1 := hpre.out
        rw [List.take_of_length_le (by have := Hn.out; omega), List.take_of_length_le (by have := Hm.out; omega)] at h1
        simp [h1]
  · have h1 : ((n : Int) == (m : Int)) = false := by simp; omega
    have h2 : ((n : Int) != (m : Int)) = true := by simp; omega
    have Hnm := hide hnm; clear hnm
    go_enter Try.func18, Try.ntmps18
    go_wp2_with fail
    go_ret
    refine ⟨ret_bool ?_, Below.refl _ _⟩
    have h3 : xs ≠ ys := by
      rintro rfl
      exact Hnm.out (Hn.out.trans Hm.out.symm)
    simp [h3]


set_option maxHeartbeats 2000000 in
/-- aflaj/aflajref02.SameGauges: whether two lists are one. -/
theorem same_Ga (A B : Option Addr) (xs ys : List Ga) (n c m d : Nat) (w : World) (hn : n = xs.length) (hm : m = ys.length) (hn' : n ≤ 9223372036854775807) (hm' : m ≤ 9223372036854775807)
    (hx : Rd w w.heap.size Ga.cells A xs) (hy : Rd w w.heap.size Ga.cells B ys) :
    Calls Try.prog 26 #[.slice A n c, .slice B m d] w fun e w' => e = .returned (.bool (decide (xs = ys))) ∧ Below w.heap.size w w' := by
  have Hn := hide hn; have Hm := hide hm; have Hx := hide hx; have Hy := hide hy
  clear hn hm hx hy
  by_cases hnm : n = m
  · subst hnm
    go_enter Try.func26, Try.ntmps26
    go_wp2_with fail
    go_loopw [4, 5] (fun v i wr => ∃ k : Nat, k ≤ n ∧ i = .int .i64 k ∧ Below w.heap.size w wr ∧ Hid (xs.take k = ys.take k)) (fun _ i _ => n - (intOf i).toNat)
    case atStart => exact ⟨0, by omega, rfl, Below.refl _ _, hide (by simp)⟩
    case round =>
      obtain ⟨k, hk, rfl, hb, hpre⟩ := hrel
      by_cases hlt : k < n
      · obtain ⟨b, off, sx, lox, hix, rfl, hB, hxk, hcx0, hcx1, hcx2⟩ := (Hx.out.below hb).ga (i := k) (by have := Hn.out; omega)
        have Hxk := hide hxk; clear hxk
        obtain ⟨b', off', sy, loy, hiy, rfl, hB', hyk, hcy0, hcy1, hcy2⟩ := (Hy.out.below hb).ga (i := k) (by have := Hm.out; omega)
        have Hyk := hide hyk; clear hyk
        by_cases e0 : sx = sy
        · subst e0
          by_cases e1 : lox = loy
          · subst e1
            by_cases e2 : hix = hiy
            · subst e2
              go_wp2_with fail
              go_quiet (fail)
              go_wp2_with fail
              exact ⟨⟨k + 1, by omega, by go_num, below_drewN hb _, hide (eqL_snoc Hxk.out Hyk.out rfl hpre.out)⟩, by simp [intOf]; omega⟩
            · have h1 : (hix == hiy) = false := by simpa using e2
              have h2 : (hix != hiy) = true := by simpa using e2
              have H0 := hide e2; clear e2
              go_wp2_with fail
              go_quiet (fail)
              go_wp2_with fail
              go_ret
              exact ⟨ret_bool (by have := eqL_stop Hxk.out Hyk.out (by have := H0.out; simp [this]); simp [this]), below_drewN hb _⟩
          · have h1 : (lox == loy) = false := by simpa using e1
            have h2 : (lox != loy) = true := by simpa using e1
            have H0 := hide e1; clear e1
            go_wp2_with fail
            go_quiet (fail)
            go_wp2_with fail
            go_ret
            exact ⟨ret_bool (by have := eqL_stop Hxk.out Hyk.out (by have := H0.out; simp [this]); simp [this]), below_drewN hb _⟩
        · have h1 : (sx == sy) = false := by simpa using e0
          have h2 : (sx != sy) = true := by simpa using e0
          have H0 := hide e0; clear e0
          go_wp2_with fail
          go_quiet (fail)
          go_wp2_with fail
          go_ret
          exact ⟨ret_bool (by have := eqL_stop Hxk.out Hyk.out (by have := H0.out; simp [this]); simp [this]), below_drewN hb _⟩
      · go_wp2_with fail
        go_ret
        refine ⟨ret_bool ?_, hb⟩
        have h1 := hpre.out
        rw [List.take_of_length_le (by have := Hn.out; omega), List.take_of_length_le (by have := Hm.out; omega)] at h1
        simp [h1]
  · have h1 : ((n : Int) == (m : Int)) = false := by simp; omega
    have h2 : ((n : Int) != (m : Int)) = true := by simp; omega
    have Hnm := hide hnm; clear hnm
    go_enter Try.func26, Try.ntmps26
    go_wp2_with fail
    go_ret
    refine ⟨ret_bool ?_, Below.refl _ _⟩
    have h3 : xs ≠ ys := by
      rintro rfl
      exact Hnm.out (Hn.out.trans Hm.out.symm)
    simp [h3]

end Go.Proofs.Ytkmocikcohhdoaa
