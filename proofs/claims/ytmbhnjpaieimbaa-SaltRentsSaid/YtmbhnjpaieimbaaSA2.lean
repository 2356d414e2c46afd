/- Salt, outright: at and pick, by contract. -/
import Derived.Test.YtmbhnjpaieimbaaOpenG
import Derived.Test.YtmbhnjpaieimbaaS13
set_option linter.unusedVariables false
set_option linter.unusedSimpArgs false
namespace Go.Proofs.Ytmbhnjpaieimbaa
open Go.RowKit Go.Shelf
attribute [local go_sem ↓] Go.wp_at_zero Go.wp_at_succ
def inP (x : Int) (s : Sp) : Prop := s.lo ≤ x ∧ x ≤ s.hi
theorem sat_any (A : Option Addr) (n c : Nat) (xs : List Nat) (i : Int) (w : World) (hn : n = xs.length) (h32 : ∀ x ∈ xs, x ≤ 4294967295) (hx : Rd w w.heap.size u32cell A xs) (hn2 : n ≤ 9223372036854775807) (i0 : 0 ≤ i) (i1 : i ≤ 1000) :
    Calls Try.prog 38 #[.slice A n c, .int .i64 i] w fun e w' => ∃ m : Nat, e = .returned (.int .u32 (m : Int)) ∧ m ≤ 4294967295 ∧ Below w.heap.size w w' := by
  obtain ⟨j, rfl⟩ : ∃ j : Nat, i = j := ⟨i.toNat, by omega⟩
  by_cases hz : n = 0
  · subst hz
    go_enter Try.func38, Try.ntmps38
    go_wp2_with fail
    go_ret
    exact ⟨0, rfl, by omega, Below.refl _ _⟩
  have hm : j % n < n := Nat.mod_lt _ (by omega)
  obtain ⟨k, hk⟩ : ∃ k, k = j % n := ⟨_, rfl⟩
  rw [← hk] at hm
  obtain ⟨b, off, x, rfl, hb, hxk, c0⟩ := hx.u32 (i := k) (by omega)
  have hxm := h32 x (List.mem_of_getElem? hxk)
  have t1 : Int.tmod (j : Int) (n : Int) = (k : Int) := by rw [Int.tmod_eq_emod_of_nonneg (by omega), hk]; exact (Int.natCast_emod j n).symm
  have t2 : (j : Int) % (n : Int) = (k : Int) := by rw [hk]; exact (Int.natCast_emod j n).symm
  have nz : ((n : Int) == 0) = false := by simpa using hz
  have nz2 : ¬ (n : Int) = 0 := by omega
  clear hk hxk hx hn
  go_enter Try.func38, Try.ntmps38
  go_wp2_with fail
  go_ret
  exact ⟨x, rfl, hxm, Below.refl _ _⟩
set_option maxHeartbeats 4000000 in
set_option maxRecDepth 100000 in
theorem spick_any (lo hi : Int) (m : Nat) (w : World) (h0 : 0 ≤ lo) (h1 : lo ≤ hi) (h2 : hi ≤ 1000000000000) (hm : m ≤ 4294967295) :
    Calls Try.prog 37 #[.agg #[.int .i64 lo, .int .i64 hi], .int .u32 (m : Int)] w fun e w' => ∃ r, e = .returned (.int .i64 r) ∧ inP r ⟨lo, hi⟩ ∧ Below w.heap.size w w' := by
  obtain ⟨W, HW⟩ : ∃ W, Hid (w.alloc (.cells #[.int .i64 lo, .int .i64 hi] 23) = W) := ⟨_, hide rfl⟩
  have hx : At W w.heap.size [.int .i64 lo, .int .i64 hi] := by rw [← HW.out]; exact At.new w #[.int .i64 lo, .int .i64 hi] _ _ rfl _ rfl
  have hB : Below w.heap.size w W := by rw [← HW.out]; exact below_new w _
  obtain ⟨q0, q1⟩ := hx.c2
  have fm : IntKind.i64.wrap (m : Int) = m := wrapI (by omega)
  have e1 : (0 : Int) ≤ (m : Int) % (hi - lo + 1) ∧ (m : Int) % (hi - lo + 1) < hi - lo + 1 := ⟨Int.emod_nonneg _ (by omega), Int.emod_lt_of_pos _ (by omega)⟩
  obtain ⟨r, hr⟩ : ∃ r, r = (m : Int) % (hi - lo + 1) := ⟨_, rfl⟩
  rw [← hr] at e1
  have t1 : Int.tmod (m : Int) (hi - lo + 1) = r := by rw [Int.tmod_eq_emod_of_nonneg (by omega), hr]
  have nz : ¬ hi - lo + 1 = 0 := by omega
  have Hr := hide hr
  clear hr hx
  go_enter Try.func37, Try.ntmps37
  go_wp2_with fail
  rw [HW.out]
  go_quiet (fail)
  go_wp2_with fail
  go_ret
  exact ⟨lo + r, by first | rfl | simp, ⟨by show lo ≤ _; omega, by show _ ≤ hi; omega⟩, below_drewN hB _⟩
theorem spickS (s : Sp) (m : Nat) (w : World) (h0 : 0 ≤ s.lo) (h1 : s.lo ≤ s.hi) (h2 : s.hi ≤ 1000000000000) (hm : m ≤ 4294967295) :
    Calls Try.prog 37 #[.agg #[.int .i64 s.lo, .int .i64 s.hi], .int .u32 (m : Int)] w fun e w' => ∃ r, e = .returned (.int .i64 r) ∧ (s.lo ≤ r ∧ r ≤ s.hi) ∧ Below w.heap.size w w' :=
  (spick_any s.lo s.hi m w h0 h1 h2 hm).mono fun e w' ⟨r, h, hp, hb⟩ => ⟨r, h, ⟨hp.1, hp.2⟩, hb⟩
end Go.Proofs.Ytmbhnjpaieimbaa
