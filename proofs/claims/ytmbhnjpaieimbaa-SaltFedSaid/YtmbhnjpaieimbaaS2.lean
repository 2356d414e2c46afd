/- Salt: the ends of a span, and the salt after a cycle, by contracts. -/
import Derived.Test.YtmbhnjpaieimbaaS1
import Derived.Handy
import Derived.Deep.RegionHeld3
set_option linter.unusedVariables false
set_option linter.unusedSimpArgs false
namespace Go.Proofs.Ytmbhnjpaieimbaa
open Go.RowKit Go.Shelf
attribute [local go_sem] ite_min ite_max

/-! ### The ends -/
def Sp.at (h : Bool) (s : Sp) : Int := if h then s.hi else s.lo
def roundF (h : Bool) (n : Int) : Int := if h then (n + 999) / 1000 else n / 1000
def minF : List Int → Int | [] => 0 | x :: xs => xs.foldl min x
def maxF : List Int → Int | [] => 0 | x :: xs => xs.foldl max x
theorem minF_snoc {xs : List Int} {k : Nat} {x : Int} (h0 : 0 < k) (hx : xs[k]? = some x) : minF (xs.take (k + 1)) = min (minF (xs.take k)) x := by
  rw [take_snoc hx]
  have hk : k < xs.length := (List.getElem?_eq_some_iff.1 hx).1
  rcases xs with _ | ⟨y, ys⟩
  · simp at hk
  · obtain ⟨k, rfl⟩ : ∃ m, k = m + 1 := ⟨k - 1, by omega⟩
    simp [minF, List.foldl_append]
theorem maxF_snoc {xs : List Int} {k : Nat} {x : Int} (h0 : 0 < k) (hx : xs[k]? = some x) : maxF (xs.take (k + 1)) = max (maxF (xs.take k)) x := by
  rw [take_snoc hx]
  have hk : k < xs.length := (List.getElem?_eq_some_iff.1 hx).1
  rcases xs with _ | ⟨y, ys⟩
  · simp at hk
  · obtain ⟨k, rfl⟩ : ∃ m, k = m + 1 := ⟨k - 1, by omega⟩
    simp [maxF, List.foldl_append]
theorem minF_one {xs : List Int} {x : Int} (hx : xs[0]? = some x) : minF (xs.take 1) = x := by
  rcases xs with _ | ⟨y, ys⟩ <;> simp at hx
  simp [minF, hx]
theorem maxF_one {xs : List Int} {x : Int} (hx : xs[0]? = some x) : maxF (xs.take 1) = x := by
  rcases xs with _ | ⟨y, ys⟩ <;> simp at hx
  simp [maxF, hx]


theorem at_low (lo hi : Int) (w : World) : Calls Try.prog 96 #[.agg #[.int .i64 lo, .int .i64 hi]] w fun e w' => e = .returned (.int .i64 lo) ∧ Below w.heap.size w w' := by
  go_enter Try.func96, Try.ntmps96
  go_wp2
  go_ret
  exact ⟨rfl, below_new _ _⟩
theorem enters_at_low : ∀ args w, (callFunc 96 args).run Try.prog w = .ok (.enter 96 args) w := enters_of Try.func96 (by kernel_rfl) rfl

theorem at_high (lo hi : Int) (w : World) : Calls Try.prog 93 #[.agg #[.int .i64 lo, .int .i64 hi]] w fun e w' => e = .returned (.int .i64 hi) ∧ Below w.heap.size w w' := by
  go_enter Try.func93, Try.ntmps93
  go_wp2
  go_ret
  exact ⟨rfl, below_new _ _⟩
theorem enters_at_high : ∀ args w, (callFunc 93 args).run Try.prog w = .ok (.enter 93 args) w := enters_of Try.func93 (by kernel_rfl) rfl

theorem round_low (n : Int) (w : World) (h0 : 0 ≤ n) (h1 : n ≤ 1000000000000000000) : Calls Try.prog 97 #[.int .i64 n] w fun e w' => e = .returned (.int .i64 (roundF false n)) ∧ Below w.heap.size w w' := by
  go_enter Try.func97, Try.ntmps97
  go_wp2
  go_ret
  exact ⟨ret_int (by simp [roundF]; try omega), Below.refl _ _⟩
theorem enters_round_low : ∀ args w, (callFunc 97 args).run Try.prog w = .ok (.enter 97 args) w := enters_of Try.func97 (by kernel_rfl) rfl

theorem round_high (n : Int) (w : World) (h0 : 0 ≤ n) (h1 : n ≤ 1000000000000000000) : Calls Try.prog 94 #[.int .i64 n] w fun e w' => e = .returned (.int .i64 (roundF true n)) ∧ Below w.heap.size w w' := by
  go_enter Try.func94, Try.ntmps94
  go_wp2
  go_ret
  exact ⟨ret_int (by simp [roundF]; try omega), Below.refl _ _⟩
theorem enters_round_high : ∀ args w, (callFunc 94 args).run Try.prog w = .ok (.enter 94 args) w := enters_of Try.func94 (by kernel_rfl) rfl

set_option maxHeartbeats 1000000 in
theorem out_low (A : Option Addr) (xs : List Int) (n c : Nat) (w : World) (hn : n = xs.length) (h0 : 0 < n) (hm : n ≤ 9223372036854775807) (hx : Rd w w.heap.size icell A xs) :
    Calls Try.prog 98 #[.slice A n c] w fun e w' => e = .returned (.int .i64 (minF xs)) ∧ w = w' := by
  obtain ⟨b, off, x, rfl, hB, hx0, hc⟩ := hx.int (i := 0) (by omega)
  have hc0 : w.cell? ⟨b, off, none⟩ = some (.int .i64 x) := by simpa using hc
  have Hx := hide hx; have Hn := hide hn; have Hx0 := hide hx0; clear hx hn hx0 hc
  go_enter Try.func98, Try.ntmps98
  go_wp2_with fail
  go_loopw [3, 4] (fun m i wr => ∃ (k : Nat) (v : Int), 1 ≤ k ∧ k ≤ n ∧ i = .int .i64 k ∧ m = .int .i64 v ∧ wr = w ∧ Hid (v = minF (xs.take k))) (fun _ i _ => n - (intOf i).toNat)
  case atStart => exact ⟨1, x, by omega, by omega, rfl, rfl, rfl, hide (minF_one Hx0.out).symm⟩
  case round =>
    obtain ⟨k, v, hk1, hk, rfl, rfl, rfl, hv⟩ := hrel
    by_cases hlt : k < n
    · obtain ⟨b', off', y, hA, hB', hxk, hck⟩ := Hx.out.int (i := k) (by have := Hn.out; omega)
      injection hA with hA
      injection hA with hA1 hA2
      subst hA1 hA2
      have Hxk := hide hxk; clear hxk
      go_wp2_with fail
      exact ⟨⟨k + 1, _, by omega, by omega, by go_num, rfl, trivial, hide (by rw [minF_snoc (by omega) Hxk.out, ← hv.out])⟩, by simp [intOf]; omega⟩
    · go_wp2
      go_ret
      exact ⟨ret_int (by rw [hv.out, List.take_of_length_le (by have := Hn.out; omega)]), rfl⟩
theorem enters_out_low : ∀ args w, (callFunc 98 args).run Try.prog w = .ok (.enter 98 args) w := enters_of Try.func98 (by kernel_rfl) rfl

set_option maxHeartbeats 1000000 in
theorem out_high (A : Option Addr) (xs : List Int) (n c : Nat) (w : World) (hn : n = xs.length) (h0 : 0 < n) (hm : n ≤ 9223372036854775807) (hx : Rd w w.heap.size icell A xs) :
    Calls Try.prog 95 #[.slice A n c] w fun e w' => e = .returned (.int .i64 (maxF xs)) ∧ w = w' := by
  obtain ⟨b, off, x, rfl, hB, hx0, hc⟩ := hx.int (i := 0) (by omega)
  have hc0 : w.cell? ⟨b, off, none⟩ = some (.int .i64 x) := by simpa using hc
  have Hx := hide hx; have Hn := hide hn; have Hx0 := hide hx0; clear hx hn hx0 hc
  go_enter Try.func95, Try.ntmps95
  go_wp2_with fail
  go_loopw [3, 4] (fun m i wr => ∃ (k : Nat) (v : Int), 1 ≤ k ∧ k ≤ n ∧ i = .int .i64 k ∧ m = .int .i64 v ∧ wr = w ∧ Hid (v = maxF (xs.take k))) (fun _ i _ => n - (intOf i).toNat)
  case atStart => exact ⟨1, x, by omega, by omega, rfl, rfl, rfl, hide (maxF_one Hx0.out).symm⟩
  case round =>
    obtain ⟨k, v, hk1, hk, rfl, rfl, rfl, hv⟩ := hrel
    by_cases hlt : k < n
    · obtain ⟨b', off', y, hA, hB', hxk, hck⟩ := Hx.out.int (i := k) (by have := Hn.out; omega)
      injection hA with hA
      injection hA with hA1 hA2
      subst hA1 hA2
      have Hxk := hide hxk; clear hxk
      go_wp2_with fail
      exact ⟨⟨k + 1, _, by omega, by omega, by go_num, rfl, trivial, hide (by rw [maxF_snoc (by omega) Hxk.out, ← hv.out])⟩, by simp [intOf]; omega⟩
    · go_wp2
      go_ret
      exact ⟨ret_int (by rw [hv.out, List.take_of_length_le (by have := Hn.out; omega)]), rfl⟩
theorem enters_out_high : ∀ args w, (callFunc 95 args).run Try.prog w = .ok (.enter 95 args) w := enters_of Try.func95 (by kernel_rfl) rfl

def lowV : Value := .agg #[.func (.func 96) #[] #[], .func (.func 97) #[] #[], .func (.func 98) #[] #[]]
def highV : Value := .agg #[.func (.func 93) #[] #[], .func (.func 94) #[] #[], .func (.func 95) #[] #[]]


theorem low_any (w : World) : Calls Try.prog 57 #[] w fun e w' => e = .returned lowV ∧ Below w.heap.size w w' := by
  go_enter Try.func57, Try.ntmps57
  go_wp2
  go_returns
  exact ⟨rfl, below_new _ _⟩

theorem high_any (w : World) : Calls Try.prog 56 #[] w fun e w' => e = .returned highV ∧ Below w.heap.size w w' := by
  go_enter Try.func56, Try.ntmps56
  go_wp2
  go_returns
  exact ⟨rfl, below_new _ _⟩

/-- Numbers that do not overflow. -/
structure So.fit (B : Int) (s : So) : Prop where
  a0 : 0 ≤ s.salt.lo ∧ s.salt.lo ≤ B
  a1 : 0 ≤ s.salt.hi ∧ s.salt.hi ≤ B
  cr : 0 ≤ s.crop ∧ s.crop ≤ 1000000000
  m0 : 0 ≤ s.mineral.lo ∧ s.mineral.lo ≤ 100000
  m1 : 0 ≤ s.mineral.hi ∧ s.mineral.hi ≤ 100000
  w0 : 0 ≤ s.wash.lo ∧ s.wash.lo ≤ 100000
  w1 : 0 ≤ s.wash.hi ∧ s.wash.hi ≤ 100000
  r0 : 0 ≤ s.rise.lo ∧ s.rise.lo ≤ 100000000
  r1 : 0 ≤ s.rise.hi ∧ s.rise.hi ≤ 100000000
/-- Thousandths of a gram after a cycle, at an end. -/
def saltedF (h : Bool) (s : So) (v : Int) : Int := 1000 * (s.salt.at h + s.rise.at h) + v * s.mineral.at h - max 0 (v - s.crop) * s.wash.at (!h)
theorem prod_le {a b A B : Int} (ha : 0 ≤ a) (hb : 0 ≤ b) (hA : a ≤ A) (hB : b ≤ B) : 0 ≤ a * b ∧ a * b ≤ A * B :=
  ⟨Int.mul_nonneg ha hb, Int.mul_le_mul hA hB hb (by omega)⟩

theorem So.fit.mono {B B' : Int} {s : So} (h : s.fit B) (hb : B ≤ B') : s.fit B' := ⟨⟨h.a0.1, by have := h.a0.2; omega⟩, ⟨h.a1.1, by have := h.a1.2; omega⟩, h.cr, h.m0, h.m1, h.w0, h.w1, h.r0, h.r1⟩
theorem salted_wrap {a r v m cr w : Int} (ha : 0 ≤ a ∧ a ≤ 100000000000000) (hr : 0 ≤ r ∧ r ≤ 100000000) (hv : 0 ≤ v ∧ v ≤ 1000000000) (hm : 0 ≤ m ∧ m ≤ 100000) (hcr : 0 ≤ cr ∧ cr ≤ 1000000000) (hw : 0 ≤ w ∧ w ≤ 100000) :
    IntKind.i64.wrap (IntKind.i64.wrap (IntKind.i64.wrap (1000 * IntKind.i64.wrap (a + r)) + IntKind.i64.wrap (v * m)) - IntKind.i64.wrap (max 0 (IntKind.i64.wrap (v - cr)) * w)) = 1000 * (a + r) + v * m - max 0 (v - cr) * w := by
  have p1 := prod_le hv.1 hm.1 hv.2 hm.2
  have hx : 0 ≤ max 0 (v - cr) ∧ max 0 (v - cr) ≤ 1000000000 := by omega
  have p2 := prod_le hx.1 hw.1 hx.2 hw.2
  rw [show IntKind.i64.wrap (v - cr) = v - cr by rw [IntKind.wrap_i64]; omega]
  generalize v * m = x at *
  generalize max 0 (v - cr) * w = y at *
  simp only [IntKind.wrap_i64]
  omega
theorem saltedF_bds {h : Bool} {s : So} {v B : Int} (hf : s.fit B) (h0 : 0 ≤ v) (h1 : v ≤ 1000000000) : -100000000000000 ≤ saltedF h s v ∧ saltedF h s v ≤ 1000 * (B + 100000000) + 100000000000000 := by
  have hx : 0 ≤ max 0 (v - s.crop) ∧ max 0 (v - s.crop) ≤ 1000000000 := by have := hf.cr; omega
  have a0 := hf.a0; have a1 := hf.a1; have r0 := hf.r0; have r1 := hf.r1
  cases h
  · have p1 := prod_le h0 hf.m0.1 h1 hf.m0.2
    have p2 := prod_le hx.1 hf.w1.1 hx.2 hf.w1.2
    simp only [saltedF, Sp.at, Bool.false_eq_true, if_false, Bool.not_false, if_true]
    omega
  · have p1 := prod_le h0 hf.m1.1 h1 hf.m1.2
    have p2 := prod_le hx.1 hf.w0.1 hx.2 hf.w0.2
    simp only [saltedF, Sp.at, Bool.false_eq_true, if_false, Bool.not_true, if_true]
    omega

end Go.Proofs.Ytmbhnjpaieimbaa
