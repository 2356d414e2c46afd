/- Channel: sums without a bound on each, Clone, field and from on lists, by contracts. -/
import Derived.Test.YtgklcilpohkpkaaO1
import Derived.Test.YtgklcilpohkpkaaW7
import Derived.Test.YtgklcilpohkpkaaR8
set_option linter.unusedVariables false
set_option linter.unusedSimpArgs false
namespace Go.Proofs.Ytgklcilpohkpkaa
open Go.RowKit Go.Shelf
attribute [local go_sem ↓] Go.wp_at_zero Go.wp_at_succ
set_option maxHeartbeats 4000000 in
set_option maxRecDepth 100000 in
theorem sum_big (A : Option Addr) (n c : Nat) (xs : List Sp) (w : World) (hr : Rd w w.heap.size Sp.cells A xs) (hn : n = xs.length) (hn2 : n ≤ 1000) (hb : bdS 60000000000000 xs)
    (hs : ∀ k, k ≤ xs.length → (0 ≤ (sumS ⟨0, 0⟩ (xs.take k)).lo ∧ (sumS ⟨0, 0⟩ (xs.take k)).lo ≤ 1000000000000000) ∧ (0 ≤ (sumS ⟨0, 0⟩ (xs.take k)).hi ∧ (sumS ⟨0, 0⟩ (xs.take k)).hi ≤ 1000000000000000)) :
    Calls Try.prog 79 #[.agg #[.int .i64 0, .int .i64 0], .slice A n c] w fun e w' => e = .returned (.agg #[.int .i64 (sumS ⟨0, 0⟩ xs).lo, .int .i64 (sumS ⟨0, 0⟩ xs).hi]) ∧ Below w.heap.size w w' := by
  have Hr := hide hr; have Hn := hide hn
  have Hbd := hide hs
  have Hx := hide hb
  clear hr hn hb hs
  have hS := sc_new w 0 0 51 51
  go_enter Try.func79, Try.ntmps79
  go_wp2_with fail
  go_loopw [9] (fun i wr => ∃ k : Nat, k ≤ n ∧ i = .int .i64 k ∧ SC w wr w.heap.size (sumS ⟨0, 0⟩ (xs.take k)) (w.heap.size + 1)) (fun i _ => n - (intOf i).toNat)
  case atStart => exact ⟨0, by omega, rfl, hS⟩
  case round =>
    clear hS
    obtain ⟨k, hk, rfl, hS⟩ := hrel
    obtain ⟨B1, B2⟩ := Hbd.out k (by have := Hn.out; omega)
    obtain ⟨s, hs⟩ : ∃ s, s = sumS ⟨0, 0⟩ (xs.take k) := ⟨_, rfl⟩
    rw [← hs] at B1 B2 hS
    obtain ⟨lo, hi⟩ := s
    dsimp only at B1 B2
    have Hs := hide hs; clear hs
    by_cases hlt : k < n
    · obtain ⟨b, off, x0, x1, rfl, hbB, hxk, c0, c1⟩ := Hr.out.sp (i := k) (by have := Hn.out; omega)
      have hxa := Hx.out _ (List.mem_of_getElem? hxk)
      obtain ⟨⟨x2, x3⟩, x4, x5⟩ := hxa
      dsimp only at x2 x3 x4 x5
      have hcb := hS.bl
      have c0 := (hcb.cell (p := ⟨b, off + k * 2, none⟩) hbB).trans c0
      have c1 := (hcb.cell (p := ⟨b, off + k * 2 + 1, none⟩) hbB).trans c1
      have hi0 : (0 : Int) ≤ (k : Int) := by omega
      have hi1 : (k : Int) < (n : Int) := by omega
      obtain ⟨q0, q1⟩ := hS.a1.c2
      have y0 := hS.f1 0
      have y1 := hS.f1 1
      have hlb := hS.a1.1
      go_wp2_with fail
      refine ⟨⟨k + 1, by omega, by go_num, ?_⟩, by simp [intOf]; omega⟩
      have hz := (hS.set (lo + x0) (hi + x1)).keep (below_new _ (.cells #[.int .i64 x0, .int .i64 x1] 51))
      rw [sumS_snoc hxk, ← Hs.out]
      exact hz
    · obtain rfl : k = n := by omega
      obtain ⟨q0, q1⟩ := hS.a1.c2
      obtain ⟨p0, p1⟩ := hS.rr.c2
      have y0 := hS.fz 0
      have y1 := hS.fz 1
      obtain ⟨k0, k1⟩ := two_set _ _ (.int .i64 lo) (.int .i64 hi) p0 p1
      go_wp2
      refine bodyPost_ret (by simp [results, Try.results79, go_sem, k0, k1]; try rfl) rfl ⟨?_, (hS.bl.setCell hS.le _).setCell hS.le _⟩
      have hz := Hs.out
      rw [Hn.out, List.take_length] at hz
      rw [← hz]
theorem eql_slice_nil (w : World) : (binOp .eql 23 (.slice none 0 0) (.slice none 0 0)).run Try.prog w = .ok (.bool true) w := by kernel_rfl
theorem eql_slice_some (g l c : Nat) (w : World) : (binOp .eql 23 (.slice (some ⟨g, 0, none⟩) l c) (.slice none 0 0)).run Try.prog w = .ok (.bool false) w := by kernel_rfl
attribute [local go_sem] eql_slice_nil eql_slice_some
set_option maxHeartbeats 4000000 in
set_option maxRecDepth 100000 in
/-- A clone is a row of its own. -/
theorem clone_int {base : Nat} (v : Value) (xs : List Int) (w : World) (hx : Own w base 3 1 icell v xs) (hl : xs.length ≤ 1000) :
    Calls Try.prog 80 #[v] w fun e w' => ∃ u, e = .returned u ∧ Own w' w.heap.size 3 1 icell u xs ∧ Below w.heap.size w w' := by
  obtain ⟨A, c, rfl, hr⟩ := hx.rd
  have hx2 := hx
  obtain ⟨_, hn | ⟨g, cap, cur, hv, _⟩⟩ := hx2
  · obtain ⟨e1, e2⟩ := hn
    have : xs = [] := List.length_eq_zero_iff.1 e2
    subst this
    injection e1 with e1 _ e3
    subst e1 e3
    clear hx hr
    go_enter Try.func80, Try.ntmps80
    go_wp2
    go_ret
    exact ⟨_, rfl, Own.nil _ _ _ _ _, Below.refl _ _⟩
  · injection hv with e1 _ e3
    subst e1 e3
    have hz3 : (w.alloc (.cells #[] 3)).heap.size = w.heap.size + 1 := by simp
    have Hl0 := hide (lit0 (cells := icell) w 3 1 w.heap.size (fun _ => rfl) (Nat.le_refl _))
    have Hr0 := hide (hr.below (below_new w (.cells #[] 3)))
    clear hx hr
    go_enter Try.func80, Try.ntmps80
    go_wp2_with (at_builtin; refine wpList_app (v := .slice (some ⟨w.heap.size, 0, none⟩) 0 0) (xs := []) (ys := xs) (n := xs.length) el_int rfl (.tmp 5) (.tmp 6) rfl rfl Hl0.out rfl rfl Hr0.out (by simp; omega) (by rw [hz3]; omega) ?_; intro vv wv hown1 hg1 hat1; have Hown1 := hide hown1; have Hkv := hide (kept_app2 (W := w.alloc (.cells #[] 3)) Hl0.out (Below.refl _ _) hg1); clear hown1 hg1 hat1)
    go_ret
    have hkv : Kept (fun b => b < w.heap.size) w wv := (Kept.all (fun _ => True) (below_new w _)).mono (fun _ _ _ => trivial) |>.trans (Hkv.out.mono fun b _ hb e => by simp [Value.ownBlock] at e; omega)
    exact ⟨_, rfl, Hown1.out, hkv.below (fun b h => h) (Nat.le_refl _)⟩
end Go.Proofs.Ytgklcilpohkpkaa
