/- Channel: slices.Index, slices.Contains at int, enter, first, by contracts. -/
import Derived.Test.YtmbhnjpaieimbaaW3
set_option linter.unusedVariables false
set_option linter.unusedSimpArgs false
namespace Go.Proofs.Ytmbhnjpaieimbaa
open Go.RowKit Go.Shelf
attribute [local go_sem ↓] Go.wp_at_zero Go.wp_at_succ
theorem index_int (A : Option Addr) (xs : List Int) (n c : Nat) (x : Int) (w : World) (hn : n = xs.length) (hm : n ≤ 1000000) (hx : Rd w w.heap.size icell A xs) :
    Calls Try.prog 139 #[.slice A n c, .int .i64 x] w fun e w' => ∃ r : Int, e = .returned (.int .i64 r) ∧ decide (0 ≤ r) = decide (x ∈ xs) ∧ w = w' := by
  have Hn := hide hn; clear hn
  have Hx := hide hx; clear hx
  go_enter Try.func139, Try.ntmps139
  go_wp2_with fail
  go_loopw [4, 8] (fun v i wr => ∃ k : Nat, k ≤ n ∧ i = .int .i64 k ∧ w = wr ∧ Hid (∀ y ∈ xs.take k, decide (x = y) = false)) (fun _ i _ => n - (intOf i).toNat)
  case atStart => exact ⟨0, by omega, rfl, rfl, hide (pre_nil (p := fun y => decide (x = y)))⟩
  case round =>
    obtain ⟨k, hk, rfl, rfl, hpre⟩ := hrel
    by_cases hlt : k < n
    · obtain ⟨b, off, x0, rfl, hB, hxk, hc0⟩ := Hx.out.int (i := k) (by have := Hn.out; omega)
      have Hxk := hide hxk; clear hxk
      have hi0 : (0 : Int) ≤ (k : Int) := by omega
      have hi1 : (k : Int) < (n : Int) := by omega
      by_cases hxx : x = x0
      · subst hxx
        go_wp2
        go_ret
        exact ⟨k, rfl, by simp [List.mem_of_getElem? Hxk.out], by first | rfl | trivial⟩
      · go_wp2
        exact ⟨⟨k + 1, by omega, by go_num, by first | rfl | trivial, hide (pre_snoc (p := fun y => decide (x = y)) Hxk.out (decide_eq_false hxx) hpre.out)⟩, by simp [intOf]; omega⟩
    · go_wp2
      go_ret
      refine ⟨-1, rfl, ?_, rfl⟩
      have hz := hpre.out
      rw [show k = xs.length by have := Hn.out; omega, List.take_length] at hz
      have hno : x ∉ xs := fun hm => by have := hz x hm; simp at this
      simp [hno]
theorem contains_int (A : Option Addr) (xs : List Int) (n c : Nat) (x : Int) (w : World) (hn : n = xs.length) (hm : n ≤ 1000000) (hx : Rd w w.heap.size icell A xs) :
    Calls Try.prog 122 #[.slice A n c, .int .i64 x] w fun e w' => e = .returned (.bool (decide (x ∈ xs))) ∧ w = w' := by
  have H := hide (index_int A xs n c x w hn hm hx); clear hx hn hm
  go_enter Try.func122, Try.ntmps122
  go_wp2_with (go_at_call 139; refine H.out.mono ?_; rintro e w' ⟨r, rfl, hr, rfl⟩; have Hr := hide hr; clear hr)
  go_ret
  exact ⟨ret_bool Hr.out, rfl⟩
set_option maxHeartbeats 1000000 in
theorem first_any (f : FuncId) (cp : Array Value) (p : Int → Bool) (hi : Int) (w : World) (h0 : 0 ≤ hi) (h1 : hi ≤ 1000000)
    (eg : ∀ args w, (callFunc f args).run Try.prog w = .ok (.enter f args) w)
    (hf : ∀ m w', 0 ≤ m → m ≤ hi → Below w.heap.size w w' → Calls Try.prog f (#[.int .i64 m] ++ cp) w' fun e w'' => e = .returned (.bool (p m)) ∧ Below w'.heap.size w' w'') :
    Calls Try.prog 104 #[.int .i64 hi, .func (.func f) #[] cp] w fun e w' => ∃ r : Int, e = .returned (.int .i64 r) ∧ (0 ≤ r ∧ r ≤ hi + 1) ∧ (r = 0 ∨ p (r - 1) = false) ∧ (r = hi + 1 ∨ p r = true) ∧ Below w.heap.size w w' := by
  have Hf := hide hf; clear hf
  go_enter Try.func104, Try.ntmps104
  go_wp2_with fail
  go_loopw [5, 6] (fun a b wr => ∃ lo en : Int, a = .int .i64 lo ∧ b = .int .i64 en ∧ Below w.heap.size w wr ∧ (0 ≤ lo ∧ lo ≤ en ∧ en ≤ hi + 1) ∧ Hid (lo = 0 ∨ p (lo - 1) = false) ∧ Hid (en = hi + 1 ∨ p en = true)) (fun a b _ => (intOf b - intOf a).toNat)
  case atStart => exact ⟨0, hi + 1, rfl, rfl, Below.refl _ _, ⟨by omega, by omega, by omega⟩, hide (.inl rfl), hide (.inl rfl)⟩
  case round =>
    obtain ⟨lo, en, rfl, rfl, hb, ⟨b0, b1, b2⟩, hl, he⟩ := hrel
    by_cases hlt : lo < en
    · have hq0 : (en - lo).tdiv 2 = (en - lo) / 2 := Int.tdiv_eq_ediv_of_nonneg (by omega)
      obtain ⟨q, hq⟩ : ∃ q, q = (en - lo) / 2 := ⟨_, rfl⟩
      rw [← hq] at hq0
      have hq1 : 0 ≤ q ∧ q < en - lo := by omega
      obtain ⟨hq2, hq3⟩ := hq1
      have H := hide (Hf.out (lo + q) wr (by omega) (by omega) hb)
      clear hq
      go_wp2_with fail
      refine H.out.mono ?_
      rintro e w' ⟨rfl, hb'⟩
      cases hp : p (lo + q)
      · go_wp2_with fail
        exact ⟨⟨lo + q + 1, en, rfl, rfl, hb.trans (hb'.mono hb.size), ⟨by omega, by omega, b2⟩, hide (.inr (by rw [show lo + q + 1 - 1 = lo + q by omega]; exact hp)), he⟩, by simp [intOf]; omega⟩
      · go_wp2_with fail
        exact ⟨⟨lo, lo + q, rfl, rfl, hb.trans (hb'.mono hb.size), ⟨by omega, by omega, by omega⟩, hl, hide (.inr hp)⟩, by simp [intOf]; omega⟩
    · obtain rfl : lo = en := by omega
      go_wp2
      go_ret
      exact ⟨lo, rfl, ⟨by omega, by omega⟩, hl.out, he.out, hb⟩
theorem enter_any (Ac Af : Option Addr) (nc cc nf cf : Nat) (dry days : Int) (cs : List Ca) (fs : List Int) (a b : Int) (w : World) (hnet : NetAt w Ac Af nc nf cs fs) :
    Calls Try.prog 84 #[.agg #[.slice Ac nc cc, .slice Af nf cf, .int .i64 dry, .int .i64 days], .agg #[.int .i64 a, .int .i64 b]] w fun e w' => e = .returned (.int .i64 (if netOk cs fs dry days then (if Sp.ok 0 13000000 ⟨a, b⟩ then 0 else 21) else 50)) ∧ Below w.heap.size w w' := by
  have hat0 := (At.new w #[.slice Ac nc cc, .slice Af nf cf, .int .i64 dry, .int .i64 days] 43 w.heap.size rfl _ rfl).alloc (.cells #[.int .i64 a, .int .i64 b] 23)
  have hat1 := At.new (w.alloc (.cells #[.slice Ac nc cc, .slice Af nf cf, .int .i64 dry, .int .i64 days] 43)) #[.int .i64 a, .int .i64 b] 23 (w.heap.size + 1) (by simp) _ rfl
  have hB0 := (below_new w (.cells #[.slice Ac nc cc, .slice Af nf cf, .int .i64 dry, .int .i64 days] 43)).alloc (by simp) (.cells #[.int .i64 a, .int .i64 b] 23)
  have hE := fun W h => chanCheck_any Ac Af nc cc nf cf dry days cs fs W h
  cases hok : netOk cs fs dry days
  · have he : netErr cs fs dry days = 50 := by simp [netErr, hok]
    rw [he] at hE
    have HE := hide hE; clear hE he hok
    go_enter Try.func84, Try.ntmps84
    go_wp2_with fail
    refine calls_gen fun W1 HW1 => ?_
    rw [HW1.out] at hat0 hat1 hB0
    refine (HE.out W1 (hnet.below hB0)).mono ?_
    rintro e w2 ⟨rfl, hb2⟩
    go_wp2
    go_ret
    exact ⟨rfl, hB0.trans (hb2.mono hB0.size)⟩
  · have he : netErr cs fs dry days = 0 := by simp [netErr, hok]
    rw [he] at hE
    have HE := hide hE; clear hE he hok
    cases hsp : Sp.ok 0 13000000 ⟨a, b⟩
    all_goals
      have Hsp := hide hsp; clear hsp
      go_enter Try.func84, Try.ntmps84
      go_wp2_with fail
      refine calls_gen fun W1 HW1 => ?_
      rw [HW1.out] at hat0 hat1 hB0
      refine (HE.out W1 (hnet.below hB0)).mono ?_
      rintro e w2 ⟨rfl, hb2⟩
      obtain ⟨q0, q1⟩ := (hat1.below hb2).c2
      go_wp2_with fail
      refine (flows_any a b w2).mono ?_
      rintro e w3 ⟨rfl, hb3⟩
      rw [Hsp.out]
      go_wp2
      go_ret
      exact ⟨rfl, (hB0.trans (hb2.mono hB0.size)).trans (hb3.mono (hB0.trans (hb2.mono hB0.size)).size)⟩
end Go.Proofs.Ytmbhnjpaieimbaa
