/- Gallery: common, some, end, by contracts. -/
import Derived.Test.YtkmocikcohhdoaaF8
import Derived.Test.YtkmocikcohhdoaaF1
set_option linter.unusedVariables false
set_option linter.unusedSimpArgs false
namespace Go.Proofs.Ytkmocikcohhdoaa
open Go.RowKit Go.Shelf
attribute [local go_sem] ite_min ite_max
theorem common_any (a b c d : Int) (w : World) : Calls Try.prog 87 #[.agg #[.int .i64 a, .int .i64 b], .agg #[.int .i64 c, .int .i64 d]] w fun e w' => e = .returned (.agg #[.int .i64 (cutS ⟨a, b⟩ ⟨c, d⟩).lo, .int .i64 (cutS ⟨a, b⟩ ⟨c, d⟩).hi]) ∧ Below w.heap.size w w' := by
  go_enter Try.func87, Try.ntmps87
  go_wp2
  all_goals
    refine bodyPost_ret (v := .agg #[.int .i64 (cutS ⟨a, b⟩ ⟨c, d⟩).lo, .int .i64 (cutS ⟨a, b⟩ ⟨c, d⟩).hi]) (by simp [results, Try.results87, go_sem, cutS]; try omega) rfl ⟨rfl, ((below_new _ _).alloc (by simp) _).alloc (by simp; omega) _⟩
/-- The panic of a gallery that is torn. -/
def tornV (k : Int) : Value := .iface 137 (.agg #[.int .i64 k])
theorem some_ok (k lo hi : Int) (w : World) (h : lo ≤ hi) : Calls Try.prog 95 #[.int .i64 k, .agg #[.int .i64 lo, .int .i64 hi]] w fun e w' => e = .returned (.agg #[.int .i64 lo, .int .i64 hi]) ∧ Below w.heap.size w w' := by
  have h' : ¬ hi < lo := by omega
  go_enter Try.func95, Try.ntmps95
  go_wp2
  refine bodyPost_ret (v := .agg #[.int .i64 lo, .int .i64 hi]) (by simp [results, Try.results95, go_sem]; try rfl) rfl ⟨rfl, (below_new _ _).alloc (by simp) _⟩
theorem some_torn (k lo hi : Int) (w : World) (h : hi < lo) : Calls Try.prog 95 #[.int .i64 k, .agg #[.int .i64 lo, .int .i64 hi]] w fun e w' => e = .panicked [{ v := tornV k, recovered := false }] ∧ Below w.heap.size w w' := by
  go_enter Try.func95, Try.ntmps95
  go_wp2
  exact ⟨rfl, rfl, (below_new _ _).alloc (by simp) _⟩
set_option maxHeartbeats 4000000 in
set_option maxRecDepth 100000 in
theorem search_any (f : FuncId) (cp : Array Value) (p : Int → Bool) (lo hi : Int) (w : World) (h0 : 0 ≤ lo) (h1 : lo ≤ hi) (h2 : hi ≤ 13000000) (eg : ∀ args w, (callFunc f args).run Try.prog w = .ok (.enter f args) w)
    (hf : ∀ (n : Int) W, lo ≤ n → n ≤ hi → Below w.heap.size w W → Calls Try.prog f (#[.int .i64 n] ++ cp) W fun e W' => e = .returned (.bool (p n)) ∧ Below W.heap.size W W') :
    Calls Try.prog 92 #[.agg #[.int .i64 lo, .int .i64 hi], .func (.func f) #[] cp] w fun e w' => ∃ r : Int, e = .returned (.int .i64 r) ∧ (lo ≤ r ∧ r ≤ hi + 1) ∧ (lo < r → p (r - 1) = false) ∧ (r ≤ hi → p r = true) ∧ Below w.heap.size w w' := by
  have Hf := hide hf
  have w1 : IntKind.i64.wrap (hi + 1) = hi + 1 := wrapI (by omega)
  clear hf
  go_enter Try.func92, Try.ntmps92
  go_wp2_with fail
  go_region
  go_wp2_with fail
  go_loopw [5, 6] (fun a b wr => ∃ l r : Int, a = .int .i64 l ∧ b = .int .i64 r ∧ lo ≤ l ∧ l ≤ r ∧ r ≤ hi + 1 ∧ Hid (lo < l → p (l - 1) = false) ∧ Hid (r ≤ hi → p r = true) ∧ Below w.heap.size w wr) (fun a b _ => (intOf b - intOf a).toNat)
  case atStart => exact ⟨lo, hi + 1, rfl, rfl, by omega, by omega, by omega, hide (fun h => by omega), hide (fun h => by omega), (below_new _ _).drew⟩
  case round =>
    obtain ⟨l, r, rfl, rfl, b1, b2, b3, H1, H2, hb⟩ := hrel
    by_cases hlt : l < r
    · have w2 : IntKind.i64.wrap (l + r) = l + r := wrapI (by omega)
      have w3 : IntKind.i64.wrap ((l + r).tdiv 2) = (l + r) / 2 := by rw [Int.tdiv_eq_ediv_of_nonneg (by omega)]; exact wrapI (by omega)
      have hm1 : l ≤ (l + r) / 2 := by omega
      have hm2 : (l + r) / 2 < r := by omega
      obtain ⟨m, hm⟩ : ∃ m, m = (l + r) / 2 := ⟨_, rfl⟩
      rw [← hm] at w3 hm1 hm2
      have w4 : IntKind.i64.wrap (m + 1) = m + 1 := wrapI (by omega)
      have H := hide (Hf.out m wr (by omega) (by omega) hb)
      clear hm
      go_wp2_with (go_at_fn f; refine H.out.mono ?_; rintro e w' ⟨rfl, hb'⟩)
      · have hp : p m = true := by assumption
        exact ⟨⟨l, m, rfl, rfl, b1, hm1, by omega, H1, hide (fun _ => hp), hb.trans (hb'.mono hb.size)⟩, by simp [intOf]; omega⟩
      · have hp : p m = false := by assumption
        exact ⟨⟨m + 1, r, rfl, rfl, by omega, by omega, b3, hide (fun _ => by rw [Int.add_sub_cancel]; exact hp), H2, hb.trans (hb'.mono hb.size)⟩, by simp [intOf]; omega⟩
    · obtain rfl : l = r := by omega
      go_wp2_with fail
      go_ret
      exact ⟨l, rfl, ⟨b1, b3⟩, H1.out, H2.out, hb⟩
end Go.Proofs.Ytkmocikcohhdoaa
