/- slices.Collect, slices.AppendSeq over whatever gives ints, by contracts. -/
import Derived.Test.YtmbhnjpaieimbaaProg
import Derived.Test.YtmbhnjpaieimbaaRange2
import Derived.Handy
set_option linter.unusedVariables false
set_option linter.unusedSimpArgs false
namespace Go.Proofs.Ytmbhnjpaieimbaa
open Go.RowKit Go.Shelf
attribute [local go_sem] Oper.semAt_some


theorem info_int : (Try.prog.info? 3).map (fun i => (i.zero, i.size, i.bytes)) = some (some (.int .i64 0), 1, 8) := by kernel_rfl
theorem appl_int {ops : Array Oper} {rest : List Oper} {o : Oper} {a : Act} {Q : Exit → Act → World → Prop} (hgd : o.guard = none) (w : World) (s x : Operand)
    (ho : o.op = .call { callee := .builtin .append, args := #[s, x], argTypes := #[41, 41] }) (base : Nat)
    (v : Value) (xs : List Int) (hs : a.eval s = v) (hown : Own w base 3 1 icell v xs) (B : Nat) (A : Option Addr) (n c : Nat) (ys : List Int) (hn : ys.length = n) (hx : a.eval x = .slice A n c) (hr : Rd w B icell A ys)
    (hlen : xs.length + ys.length ≤ 1000000) (hbase : base ≤ w.heap.size)
    (h : ∀ v' w', Own w' base 3 1 icell v' (xs ++ ys) → w.grownBy w' v.ownBlock → wpList Try.prog ops Q rest (a.put o.dst v') w') : wpList Try.prog ops Q (o :: rest) a w := by
  obtain ⟨i0, hi0, hz0, hz1, hz2⟩ := info_parts info_int
  exact wpList_append_rd hgd w s x 41 ho base 3 i0 _ 1 8 Try.underlying41 hi0 hz0 hz1 hz2 rfl (by omega) (fun _ => rfl) icell_one v xs hs hown B A n c ys hn hx hr (by simp only [maxLen]; omega) (by omega) hbase h

theorem appi_int {F : Fence} {nf : Nat} {ops : Array Oper} {rest : List Oper} {o : Oper} {a : Act} {Q : Exit → Act → World → Prop} (hgd : o.guard = none) (w : World) (s x : Operand)
    (ho : o.op = .call { callee := .builtin .append, args := #[s, x], argTypes := #[41, 41] }) (base : Nat)
    (v : Value) (xs : List Int) (hs : a.eval s = v) (hown : Own w base 3 1 icell v xs) (B : Nat) (A : Option Addr) (n c : Nat) (ys : List Int) (hn : ys.length = n) (hx : a.eval x = .slice A n c) (hr : Rd w B icell A ys)
    (hlen : xs.length + ys.length ≤ 1000000) (hbase : base ≤ w.heap.size)
    (h : ∀ v' w', Own w' base 3 1 icell v' (xs ++ ys) → w.grownBy w' v.ownBlock → wpListIn F nf Try.prog ops Q rest (a.put o.dst v') w') : wpListIn F nf Try.prog ops Q (o :: rest) a w := by
  obtain ⟨i0, hi0, hz0, hz1, hz2⟩ := info_parts info_int
  exact wpListIn_append_rd hgd w s x 41 ho base 3 i0 _ 1 8 Try.underlying41 hi0 hz0 hz1 hz2 rfl (by omega) (fun _ => rfl) icell_one v xs hs hown B A n c ys hn hx hr (by simp only [maxLen]; omega) (by omega) hbase h


set_option maxHeartbeats 4000000 in
set_option maxRecDepth 100000 in
theorem appendSeq_any (gf : Nat) (lb : Array Value) (L : List Int) (R : Nat → Prop) (w : World) (eg : ∀ args w, (callFunc gf args).run Try.prog w = .ok (.enter gf args) w)
    (hseq : ∀ n, 3 ≤ n → SeqK n Try.prog gf lb (fun k => #[.int .i64 (L.getD k 0)]) L.length False (fun _ _ => False) (fun _ => False) R w) (hR : ∀ b, R b → b < w.heap.size) (hlen : L.length ≤ 1000) :
    Calls Try.prog 140 #[.slice none 0 0, .func (.func gf) #[] lb] w fun e w' => ∃ v, e = .returned v ∧ Own w' w.heap.size 3 1 icell v L ∧ Below w.heap.size w w' := by
  obtain ⟨w1, Hw1⟩ : ∃ w1, Hid (w.alloc (.cells #[.slice none 0 0] 41) = w1) := ⟨_, hide rfl⟩
  have hb1 : Below w.heap.size w w1 := by rw [← Hw1.out]; exact below_new _ _
  have hz1 : w1.heap.size = w.heap.size + 1 := by rw [← Hw1.out]; simp
  have hc1 : w1.cell? ⟨w.heap.size, 0, none⟩ = some (.slice none 0 0) := by rw [← Hw1.out]; exact cell_new _ _ _ _ _ rfl
  have hf1 : w1.frozen? ⟨w.heap.size, 0, none⟩ = false := by rw [← Hw1.out]; exact At.frozen_new _ _ _ _ rfl 0
  refine (callsIn_wide (n := 9)).1 ?_
  refine callsIn_of_wp_marks Try.func140 rfl trivial ?_ rfl
  simp only [Try.ntmps140, List.size_toArray, List.length_cons, List.length_nil, Nat.reduceAdd, Nat.reduceSub, Array.replicate_succ, Array.replicate_zero, List.push_toArray, List.append_toArray, List.nil_append, List.cons_append]
  gi_wp2_with fail
  rw [Hw1.out]
  refine wp_range (gf := gf) (lb := lb) rfl eg (hseq _ (by omega)) (Kept.all _ (hb1)) (fun _ => rfl) (fun b => b = w.heap.size)
    (fun b h => h.elim) (by intro b hb; omega) (by intro b hb; have := hR b hb; omega)
    (fun k W => BoxInv 3 1 icell w w.heap.size (w1.heap.size + 2) (L.take k) W)
    (fun c k W => False)
    (fun k a' W => a' = { tmps := #[.slice none 0 0, .func (.func gf) #[] lb, .pointer (some ⟨w.heap.size, 0, none⟩), undef, .slice none 0 0, .int .i64 (L.getD k 0), .func (.func gf) #[] lb, .int .i64 (L.getD k 0), undef, undef, undef, undef, undef], defers := [] })
    (fun k A B h hk => h.kept hk (by intro b hb; exact ⟨fun h => h, by omega, by omega⟩) ⟨fun h => h, by omega, by omega⟩ (by intro b hb; exact ⟨fun h => h, by omega, by omega⟩))
    (fun c k A B h hk => h) (fun k a' A B h hk => h)
    (fun W hk hs => ⟨⟨_, Own.nil _ _ _ _ _, (hk.cell (p := ⟨w.heap.size, 0, none⟩) trivial (by simp; omega)).trans hc1, (hk.frozen (p := ⟨w.heap.size, 0, none⟩) trivial (by simp; omega)).trans hf1⟩, by have := hk.size; omega, hb1.trans (hk.below (fun _ _ => trivial) hb1.size), by omega⟩)
    (fun h => h.elim) ?assign ?body ?done ?stop ?panic
  case panic => intro k chain W h; exact h.elim
  case stop => intro c k W hk h; exact h.elim
  case assign =>
    intro l k W hi hlen' hk
    gi_wp2
    exact ⟨Kept.refl _ _, hi, by rw [show L.getD k 0 = L[k] from by simp [List.getD_eq_getElem?_getD, hk]]⟩
  case body =>
    rintro l k a' W hinv rfl hlen' hkn
    obtain ⟨v, hown, hcl, hfz⟩ := hinv.own
    have Hown := hide hown; have Hinv := hide hinv
    have hx : L[k]? = some (L.getD k 0) := by rw [List.getD_eq_getElem?_getD, List.getElem?_eq_getElem hkn]; rfl
    obtain ⟨x, hxe⟩ : ∃ x, x = L.getD k 0 := ⟨_, rfl⟩
    rw [← hxe] at hx ⊢
    have Hx := hide hx
    clear hown hinv hx hxe
    have hr := hide (Rd.new (cells := icell) W #[.int .i64 x] 3 [x] rfl)
    gi_wp2_with (gi_at_builtin; refine appi_int rfl _ (.tmp 8) (.tmp 10) rfl (w1.heap.size + 2) v (L.take k) rfl (Hown.out.alloc _) _ _ 1 1 [x] rfl rfl hr.out (by simp; omega) (by simp; omega) ?_; intro vv wv hown1 hg1; have kv := kept_app Hown.out hg1; have Hst := hide (Hinv.out.step hown1 kv (by omega) (by omega)); have hcl1 := (kv.cell (p := ⟨w.heap.size, 0, none⟩) (by show w.heap.size < _; omega) Hinv.out.lt).trans hcl; have hfz1 := (kv.frozen (p := ⟨w.heap.size, 0, none⟩) (by show w.heap.size < _; omega) Hinv.out.lt).trans hfz; obtain ⟨A1, c1, rfl, hrd1⟩ := hown1.rd; rw [show (L.take k ++ [x]).length = k + 1 from by simp; omega] at Hst ⊢; clear kv hg1 hown1 hrd1)
    exact ⟨Hst.out.2, by show BoxInv _ _ _ _ _ _ (L.take (k + 1)) _; rw [take_snoc Hx.out]; exact Hst.out.1⟩
  case done =>
    intro W hinv hD
    obtain ⟨v, hown, hcl, hfz⟩ := hinv.own
    rw [List.take_length] at hown
    have Hown := hide hown; have Hinv := hide hinv
    clear hown hinv
    gi_wp2
    refine ⟨by simp, .inl ⟨_, _, rfl, run_takeDeferred hD, ?_⟩⟩
    refine ⟨_, results_tmp rfl _ _ _, ?_⟩
    exact ⟨v, rfl, (Hown.out.keptR (Kept.putObj W _ _) (fun b hb => by omega)).mono (by omega), Hinv.out.bl.trans ((Kept.putObj W _ _).below (fun b hb => by omega) Hinv.out.bl.size)⟩

set_option maxHeartbeats 1000000 in
theorem collect_any (gf : Nat) (lb : Array Value) (L : List Int) (R : Nat → Prop) (w : World) (eg : ∀ args w, (callFunc gf args).run Try.prog w = .ok (.enter gf args) w)
    (hseq : ∀ n, 3 ≤ n → SeqK n Try.prog gf lb (fun k => #[.int .i64 (L.getD k 0)]) L.length False (fun _ _ => False) (fun _ => False) R w) (hR : ∀ b, R b → b < w.heap.size) (hlen : L.length ≤ 1000) :
    Calls Try.prog 129 #[.func (.func gf) #[] lb] w fun e w' => ∃ v, e = .returned v ∧ Own w' w.heap.size 3 1 icell v L ∧ Below w.heap.size w w' := by
  have H := hide (appendSeq_any gf lb L R w eg hseq hR hlen)
  clear hseq eg
  go_enter Try.func129, Try.ntmps129
  go_wp2_with fail
  refine H.out.mono ?_
  rintro e w' ⟨v, rfl, ho, hb⟩
  have Ho := hide ho
  clear ho
  go_wp2
  go_ret
  exact ⟨v, rfl, Ho.out, hb⟩
end Go.Proofs.Ytmbhnjpaieimbaa
