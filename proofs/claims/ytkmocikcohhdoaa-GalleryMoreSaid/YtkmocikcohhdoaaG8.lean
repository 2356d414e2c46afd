/- Appends at the program's types; places, by contracts. -/
import Derived.Test.YtkmocikcohhdoaaProg
import Derived.Test.YtkmocikcohhdoaaBase
set_option linter.unusedVariables false
set_option linter.unusedSimpArgs false
namespace Go.Proofs.Ytkmocikcohhdoaa
open Go.RowKit Go.Shelf


theorem info_int : (Try.prog.info? 3).map (fun i => (i.zero, i.size, i.bytes)) = some (some (.int .i64 0), 1, 8) := by kernel_rfl
theorem appl_int {ops : Array Oper} {rest : List Oper} {o : Oper} {a : Act} {Q : Exit → Act → World → Prop} (hgd : o.guard = none) (w : World) (s x : Operand)
    (ho : o.op = .call { callee := .builtin .append, args := #[s, x], argTypes := #[26, 26] }) (base : Nat)
    (v : Value) (xs : List Int) (hs : a.eval s = v) (hown : Own w base 3 1 icell v xs) (B : Nat) (A : Option Addr) (n c : Nat) (ys : List Int) (hn : ys.length = n) (hx : a.eval x = .slice A n c) (hr : Rd w B icell A ys)
    (hlen : xs.length + ys.length ≤ 1000000) (hbase : base ≤ w.heap.size)
    (h : ∀ v' w', Own w' base 3 1 icell v' (xs ++ ys) → w.grownBy w' v.ownBlock → wpList Try.prog ops Q rest (a.put o.dst v') w') : wpList Try.prog ops Q (o :: rest) a w := by
  obtain ⟨i0, hi0, hz0, hz1, hz2⟩ := info_parts info_int
  exact wpList_append_rd hgd w s x 26 ho base 3 i0 _ 1 8 Try.underlying26 hi0 hz0 hz1 hz2 rfl (by omega) (fun _ => rfl) icell_one v xs hs hown B A n c ys hn hx hr (by simp only [maxLen]; omega) (by omega) hbase h


theorem info_Sp : (Try.prog.info? 24).map (fun i => (i.zero, i.size, i.bytes)) = some (some (.agg #[.int .i64 0, .int .i64 0]), 2, 16) := by kernel_rfl
theorem appl_Sp {ops : Array Oper} {rest : List Oper} {o : Oper} {a : Act} {Q : Exit → Act → World → Prop} (hgd : o.guard = none) (w : World) (s x : Operand)
    (ho : o.op = .call { callee := .builtin .append, args := #[s, x], argTypes := #[37, 37] }) (base : Nat)
    (v : Value) (xs : List Sp) (hs : a.eval s = v) (hown : Own w base 24 2 Sp.cells v xs) (B : Nat) (A : Option Addr) (n c : Nat) (ys : List Sp) (hn : ys.length = n) (hx : a.eval x = .slice A n c) (hr : Rd w B Sp.cells A ys)
    (hlen : xs.length + ys.length ≤ 1000000) (hbase : base ≤ w.heap.size)
    (h : ∀ v' w', Own w' base 24 2 Sp.cells v' (xs ++ ys) → w.grownBy w' v.ownBlock → wpList Try.prog ops Q rest (a.put o.dst v') w') : wpList Try.prog ops Q (o :: rest) a w := by
  obtain ⟨i0, hi0, hz0, hz1, hz2⟩ := info_parts info_Sp
  exact wpList_append_rd hgd w s x 37 ho base 24 i0 _ 2 16 Try.underlying37 hi0 hz0 hz1 hz2 rfl (by omega) (fun _ => rfl) Sp.one v xs hs hown B A n c ys hn hx hr (by simp only [maxLen]; omega) (by omega) hbase h


theorem info_Rc : (Try.prog.info? 96).map (fun i => (i.zero, i.size, i.bytes)) = some (some (.agg #[.int .i64 0, .int .i64 0, .int .i64 0, .int .i64 0, .int .i64 0, .int .i64 0]), 6, 48) := by kernel_rfl
theorem appl_Rc {ops : Array Oper} {rest : List Oper} {o : Oper} {a : Act} {Q : Exit → Act → World → Prop} (hgd : o.guard = none) (w : World) (s x : Operand)
    (ho : o.op = .call { callee := .builtin .append, args := #[s, x], argTypes := #[22, 22] }) (base : Nat)
    (v : Value) (xs : List Rc) (hs : a.eval s = v) (hown : Own w base 96 6 Rc.cells v xs) (B : Nat) (A : Option Addr) (n c : Nat) (ys : List Rc) (hn : ys.length = n) (hx : a.eval x = .slice A n c) (hr : Rd w B Rc.cells A ys)
    (hlen : xs.length + ys.length ≤ 1000000) (hbase : base ≤ w.heap.size)
    (h : ∀ v' w', Own w' base 96 6 Rc.cells v' (xs ++ ys) → w.grownBy w' v.ownBlock → wpList Try.prog ops Q rest (a.put o.dst v') w') : wpList Try.prog ops Q (o :: rest) a w := by
  obtain ⟨i0, hi0, hz0, hz1, hz2⟩ := info_parts info_Rc
  exact wpList_append_rd hgd w s x 22 ho base 96 i0 _ 6 48 Try.underlying22 hi0 hz0 hz1 hz2 rfl (by omega) (fun _ => rfl) Rc.one v xs hs hown B A n c ys hn hx hr (by simp only [maxLen]; omega) (by omega) hbase h


theorem info_Ga : (Try.prog.info? 64).map (fun i => (i.zero, i.size, i.bytes)) = some (some (.agg #[.int .i64 0, .int .i64 0, .int .i64 0]), 3, 24) := by kernel_rfl
theorem appl_Ga {ops : Array Oper} {rest : List Oper} {o : Oper} {a : Act} {Q : Exit → Act → World → Prop} (hgd : o.guard = none) (w : World) (s x : Operand)
    (ho : o.op = .call { callee := .builtin .append, args := #[s, x], argTypes := #[35, 35] }) (base : Nat)
    (v : Value) (xs : List Ga) (hs : a.eval s = v) (hown : Own w base 64 3 Ga.cells v xs) (B : Nat) (A : Option Addr) (n c : Nat) (ys : List Ga) (hn : ys.length = n) (hx : a.eval x = .slice A n c) (hr : Rd w B Ga.cells A ys)
    (hlen : xs.length + ys.length ≤ 1000000) (hbase : base ≤ w.heap.size)
    (h : ∀ v' w', Own w' base 64 3 Ga.cells v' (xs ++ ys) → w.grownBy w' v.ownBlock → wpList Try.prog ops Q rest (a.put o.dst v') w') : wpList Try.prog ops Q (o :: rest) a w := by
  obtain ⟨i0, hi0, hz0, hz1, hz2⟩ := info_parts info_Ga
  exact wpList_append_rd hgd w s x 35 ho base 64 i0 _ 3 24 Try.underlying35 hi0 hz0 hz1 hz2 rfl (by omega) (fun _ => rfl) Ga.one v xs hs hown B A n c ys hn hx hr (by simp only [maxLen]; omega) (by omega) hbase h


/-- The numbers below n that a set holds, in ascending order. -/
def mem (s n : Nat) : List Int := ((List.range n).filter (fun i => s.testBit i)).map fun (i : Nat) => (i : Int)
theorem mem_succ (s n : Nat) : mem s (n + 1) = mem s n ++ if s.testBit n then [(n : Int)] else [] := by
  unfold mem
  rw [List.range_succ, List.filter_append, List.map_append]
  by_cases h : s.testBit n <;> simp [List.filter_cons, h]
theorem mem_len (s n : Nat) : (mem s n).length ≤ n := by
  unfold mem
  rw [List.length_map]
  exact Nat.le_trans (List.length_filter_le _ _) (by simp)

set_option maxRecDepth 100000 in
set_option maxHeartbeats 1000000 in
theorem places_any (s : Nat) (w : World) (hs : s < 65536) :
    Calls Try.prog 56 #[.int .i64 s] w fun e w' => ∃ v, e = .returned v ∧ Own w' w.heap.size 3 1 icell v (mem s 12) ∧ Below w.heap.size w w' := by
  have Hs := hide hs; clear hs
  go_enter Try.func56, Try.ntmps56
  go_wp2_with fail
  go_loopw [3, 4] (fun v i wr => ∃ (k : Nat), k ≤ 12 ∧ i = .int .i64 k ∧ Below w.heap.size w wr ∧ Own wr w.heap.size 3 1 icell v (mem s k)) (fun _ i _ => 12 - (intOf i).toNat)
  case atStart => exact ⟨0, by omega, rfl, Below.refl _ _, Own.nil _ _ _ _ _⟩
  case round =>
    obtain ⟨k, hk, rfl, hb, hown⟩ := hrel
    have Hown := hide hown; clear hown
    by_cases hlt : k < 12
    · have ht := bit_test s k Hs.out
      have hml := mem_len s k
      cases hq : s.testBit k
      · rw [hq] at ht
        have Hq := hide hq; clear hq
        go_wp2_with fail
        exact ⟨⟨k + 1, by omega, by go_num, hb, by rw [mem_succ, Hq.out]; simpa using Hown.out⟩, by simp [intOf]; omega⟩
      · rw [hq] at ht
        have Hq := hide hq; clear hq
        have hr := Rd.new (cells := icell) wr #[.int .i64 k] 3 [(k : Int)] rfl
        have Hr := hide hr; clear hr
        go_wp2_with (at_builtin; refine appl_int rfl _ (.tmp 14) (.tmp 16) rfl w.heap.size u3 (mem s k) rfl (Hown.out.alloc _) _ _ 1 1 [(k : Int)] rfl rfl Hr.out (by simp; omega) (by have := hb.size; simp; omega) ?_; intro v1 w1 hown1 hg1)
        have hb1 := below_own (Hown.out.alloc _) (hb.alloc hb.size (.cells #[.int .i64 (k : Int)] 3)) hg1 (by have := hb.size; simp; omega)
        exact ⟨⟨k + 1, by omega, by go_num, hb1, by rw [mem_succ, Hq.out]; exact hown1⟩, by simp [intOf]; omega⟩
    · obtain rfl : k = 12 := by omega
      go_wp2_with fail
      go_ret
      exact ⟨_, rfl, Hown.out, hb⟩
end Go.Proofs.Ytkmocikcohhdoaa
