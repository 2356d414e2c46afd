/- The reference: whether two lists of spans are one, by contract. -/
import Derived.Test.YtmbhnjpaieimbaaC7
import Derived.Deep.QuietTactic
import Derived.BigQuiet
set_option linter.unusedVariables false
set_option linter.unusedSimpArgs false
namespace Go.Proofs.Ytmbhnjpaieimbaa
open Go.RowKit Go.Shelf
set_option maxHeartbeats 2000000 in
/-- aflaj/aflajref01.SameSpans: whether two lists are one. -/
theorem same_Sp (A B : Option Addr) (xs ys : List Sp) (n c m d : Nat) (w : World) (hn : n = xs.length) (hm : m = ys.length) (hn' : n ≤ 9223372036854775807) (hm' : m ≤ 9223372036854775807)
    (hx : Rd w w.heap.size Sp.cells A xs) (hy : Rd w w.heap.size Sp.cells B ys) :
    Calls Try.prog 20 #[.slice A n c, .slice B m d] w fun e w' => e = .returned (.bool (decide (xs = ys))) ∧ Below w.heap.size w w' := by
  have Hn := hide hn; have Hm := hide hm; have Hx := hide hx; have Hy := hide hy
  clear hn hm hx hy
  by_cases hnm : n = m
  · subst hnm
    go_enter Try.func20, Try.ntmps20
    go_wp2_with fail
    go_loopw [4, 5] (fun v i wr => ∃ k : Nat, k ≤ n ∧ i = .int .i64 k ∧ Below w.heap.size w wr ∧ Hid (xs.take k = ys.take k)) (fun _ i _ => n - (intOf i).toNat)
    case atStart => exact ⟨0, by omega, rfl, Below.refl _ _, hide (by simp)⟩
    case round =>
      obtain ⟨k, hk, rfl, hb, hpre⟩ := hrel
      by_cases hlt : k < n
      · obtain ⟨b, off, lox, hix, rfl, hB, hxk, hcx0, hcx1⟩ := (Hx.out.below hb).sp (i := k) (by have := Hn.out; omega)
        have Hxk := hide hxk; clear hxk
        obtain ⟨b', off', loy, hiy, rfl, hB', hyk, hcy0, hcy1⟩ := (Hy.out.below hb).sp (i := k) (by have := Hm.out; omega)
        have Hyk := hide hyk; clear hyk
        by_cases e0 : lox = loy
        · subst e0
          by_cases e1 : hix = hiy
          · subst e1
            go_wp2_with fail
            go_quiet (fail)
            go_wp2_with fail
            exact ⟨⟨k + 1, by omega, by go_num, below_drewN hb _, hide (eqL_snoc Hxk.out Hyk.out rfl hpre.out)⟩, by simp [intOf]; omega⟩
          · have h1 : (hix == hiy) = false := by simpa using e1
            have h2 : (hix != hiy) = true := by simpa using e1
            have H0 := hide e1; clear e1
            go_wp2_with fail
            go_quiet (fail)
            go_wp2_with fail
            go_ret
            exact ⟨ret_bool (by have := eqL_stop Hxk.out Hyk.out (by have := H0.out; simp [this]); simp [this]), below_drewN hb _⟩
        · have h1 : (lox == loy) = false := by simpa using e0
          have h2 : (lox != loy) = true := by simpa using e0
          have H0 := hide e0; clear e0
          go_wp2_with fail
          go_quiet (fail)
          go_wp2_with fail
          go_ret
          exact ⟨ret_bool (by have := eqL_stop Hxk.out Hyk.out (by have := H0.out; simp [this]); simp [this]), below_drewN hb _⟩
      · go_wp2_with fail
        go_ret
        refine ⟨ret_bool ?_, hb⟩
        have h1 := hpre.out
        rw [List.take_of_length_le (by have := Hn.out; omega), List.take_of_length_le (by have := Hm.out; omega)] at h1
        simp [h1]
  · have h1 : ((n : Int) == (m : Int)) = false := by simp; omega
    have h2 : ((n : Int) != (m : Int)) = true := by simp; omega
    have Hnm := hide hnm; clear hnm
    go_enter Try.func20, Try.ntmps20
    go_wp2_with fail
    go_ret
    refine ⟨ret_bool ?_, Below.refl _ _⟩
    have h3 : xs ≠ ys := by
      rintro rfl
      exact Hnm.out (Hn.out.trans Hm.out.symm)
    simp [h3]
end Go.Proofs.Ytmbhnjpaieimbaa
