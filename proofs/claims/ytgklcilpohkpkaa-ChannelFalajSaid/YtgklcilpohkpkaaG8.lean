/- Appends at the program's types; places, by contracts. -/
import Derived.Test.YtgklcilpohkpkaaProg
import Derived.Test.YtgklcilpohkpkaaBase
set_option linter.unusedVariables false
set_option linter.unusedSimpArgs false
namespace Go.Proofs.Ytgklcilpohkpkaa
open Go.RowKit Go.Shelf


theorem ginfo_int : (Try.prog.info? 3).map (fun i => (i.zero, i.size, i.bytes)) = some (some (.int .i64 0), 1, 8) := by kernel_rfl
theorem gappl_int {ops : Array Oper} {rest : List Oper} {o : Oper} {a : Act} {Q : Exit → Act → World → Prop} (hgd : o.guard = none) (w : World) (s x : Operand)
    (ho : o.op = .call { callee := .builtin .append, args := #[s, x], argTypes := #[23, 23] }) (base : Nat)
    (v : Value) (xs : List Int) (hs : a.eval s = v) (hown : Own w base 3 1 icell v xs) (B : Nat) (A : Option Addr) (n c : Nat) (ys : List Int) (hn : ys.length = n) (hx : a.eval x = .slice A n c) (hr : Rd w B icell A ys)
    (hlen : xs.length + ys.length ≤ 1000000) (hbase : base ≤ w.heap.size)
    (h : ∀ v' w', Own w' base 3 1 icell v' (xs ++ ys) → w.grownBy w' v.ownBlock → wpList Try.prog ops Q rest (a.put o.dst v') w') : wpList Try.prog ops Q (o :: rest) a w := by
  obtain ⟨i0, hi0, hz0, hz1, hz2⟩ := info_parts ginfo_int
  exact wpList_append_rd hgd w s x 23 ho base 3 i0 _ 1 8 Try.underlying23 hi0 hz0 hz1 hz2 rfl (by omega) (fun _ => rfl) icell_one v xs hs hown B A n c ys hn hx hr (by simp only [maxLen]; omega) (by omega) hbase h


theorem info_Sp : (Try.prog.info? 51).map (fun i => (i.zero, i.size, i.bytes)) = some (some (.agg #[.int .i64 0, .int .i64 0]), 2, 16) := by kernel_rfl
theorem appl_Sp {ops : Array Oper} {rest : List Oper} {o : Oper} {a : Act} {Q : Exit → Act → World → Prop} (hgd : o.guard = none) (w : World) (s x : Operand)
    (ho : o.op = .call { callee := .builtin .append, args := #[s, x], argTypes := #[52, 52] }) (base : Nat)
    (v : Value) (xs : List Sp) (hs : a.eval s = v) (hown : Own w base 51 2 Sp.cells v xs) (B : Nat) (A : Option Addr) (n c : Nat) (ys : List Sp) (hn : ys.length = n) (hx : a.eval x = .slice A n c) (hr : Rd w B Sp.cells A ys)
    (hlen : xs.length + ys.length ≤ 1000000) (hbase : base ≤ w.heap.size)
    (h : ∀ v' w', Own w' base 51 2 Sp.cells v' (xs ++ ys) → w.grownBy w' v.ownBlock → wpList Try.prog ops Q rest (a.put o.dst v') w') : wpList Try.prog ops Q (o :: rest) a w := by
  obtain ⟨i0, hi0, hz0, hz1, hz2⟩ := info_parts info_Sp
  exact wpList_append_rd hgd w s x 52 ho base 51 i0 _ 2 16 Try.underlying52 hi0 hz0 hz1 hz2 rfl (by omega) (fun _ => rfl) Sp.one v xs hs hown B A n c ys hn hx hr (by simp only [maxLen]; omega) (by omega) hbase h


theorem info_Rc : (Try.prog.info? 103).map (fun i => (i.zero, i.size, i.bytes)) = some (some (.agg #[.int .i64 0, .int .i64 0, .int .i64 0, .int .i64 0, .int .i64 0, .int .i64 0]), 6, 48) := by kernel_rfl
theorem appl_Rc {ops : Array Oper} {rest : List Oper} {o : Oper} {a : Act} {Q : Exit → Act → World → Prop} (hgd : o.guard = none) (w : World) (s x : Operand)
    (ho : o.op = .call { callee := .builtin .append, args := #[s, x], argTypes := #[99, 99] }) (base : Nat)
    (v : Value) (xs : List Rc) (hs : a.eval s = v) (hown : Own w base 103 6 Rc.cells v xs) (B : Nat) (A : Option Addr) (n c : Nat) (ys : List Rc) (hn : ys.length = n) (hx : a.eval x = .slice A n c) (hr : Rd w B Rc.cells A ys)
    (hlen : xs.length + ys.length ≤ 1000000) (hbase : base ≤ w.heap.size)
    (h : ∀ v' w', Own w' base 103 6 Rc.cells v' (xs ++ ys) → w.grownBy w' v.ownBlock → wpList Try.prog ops Q rest (a.put o.dst v') w') : wpList Try.prog ops Q (o :: rest) a w := by
  obtain ⟨i0, hi0, hz0, hz1, hz2⟩ := info_parts info_Rc
  exact wpList_append_rd hgd w s x 99 ho base 103 i0 _ 6 48 Try.underlying99 hi0 hz0 hz1 hz2 rfl (by omega) (fun _ => rfl) Rc.one v xs hs hown B A n c ys hn hx hr (by simp only [maxLen]; omega) (by omega) hbase h


theorem info_Ga : (Try.prog.info? 163).map (fun i => (i.zero, i.size, i.bytes)) = some (some (.agg #[.int .i64 0, .int .i64 0, .int .i64 0]), 3, 24) := by kernel_rfl
theorem appl_Ga {ops : Array Oper} {rest : List Oper} {o : Oper} {a : Act} {Q : Exit → Act → World → Prop} (hgd : o.guard = none) (w : World) (s x : Operand)
    (ho : o.op = .call { callee := .builtin .append, args := #[s, x], argTypes := #[141, 141] }) (base : Nat)
    (v : Value) (xs : List Ga) (hs : a.eval s = v) (hown : Own w base 163 3 Ga.cells v xs) (B : Nat) (A : Option Addr) (n c : Nat) (ys : List Ga) (hn : ys.length = n) (hx : a.eval x = .slice A n c) (hr : Rd w B Ga.cells A ys)
    (hlen : xs.length + ys.length ≤ 1000000) (hbase : base ≤ w.heap.size)
    (h : ∀ v' w', Own w' base 163 3 Ga.cells v' (xs ++ ys) → w.grownBy w' v.ownBlock → wpList Try.prog ops Q rest (a.put o.dst v') w') : wpList Try.prog ops Q (o :: rest) a w := by
  obtain ⟨i0, hi0, hz0, hz1, hz2⟩ := info_parts info_Ga
  exact wpList_append_rd hgd w s x 141 ho base 163 i0 _ 3 24 Try.underlying141 hi0 hz0 hz1 hz2 rfl (by omega) (fun _ => rfl) Ga.one v xs hs hown B A n c ys hn hx hr (by simp only [maxLen]; omega) (by omega) hbase h


/-- The numbers below n that a set holds, in ascending order. -/
def mem (s n : Nat) : List Int := ((List.range n).filter (fun i => s.testBit i)).map fun (i : Nat) => (i : Int)
theorem mem_succ (s n : Nat) : mem s (n + 1) = mem s n ++ if s.testBit n then [(n : Int)] else [] := by
  unfold mem
  rw [List.range_succ, List.filter_append, List.map_append]
  by_cases h : s.testBit n <;> simp [List.filter_cons, h]
theorem mem_len (s n : Nat) : (mem s n).length ≤ n := by
  unfold mem
  rw [List.length_map]
  exact Nat.le_trans (List.length_filter_le _ _) (by simp)

end Go.Proofs.Ytgklcilpohkpkaa
