/- An append to an empty literal: all that stood stands. No program is named here. -/
import Derived.Test.YtmbhnjpaieimbaaApp
set_option linter.unusedVariables false
set_option linter.unusedSimpArgs false
namespace Go.Proofs.Ytmbhnjpaieimbaa
open Go.RowKit Go.Shelf
section
variable {α : Type} {cells : α → List Value} {P : Program} {T E : TypeId} {k bytes : Nat} {w : World} {base g : Nat} {B : Nat} {A : Option Addr} {n c : Nat} {ys : List α}
theorem ElLaw.fresh (L : ElLaw P T E k bytes cells) (hown : Own w base E k cells (.slice (some ⟨g, 0, none⟩) 0 0) []) (hr : Rd w B cells A ys) (hn : ys.length = n) (hlen : n ≤ 1000000) (hbase : base ≤ w.heap.size) (ty : TypeId) :
    ∃ v' w', (Builtin.append_ #[T, T] ty #[.slice (some ⟨g, 0, none⟩) 0 0, .slice A n c]).run P w = .ok v' w' ∧ Own w' base E k cells v' ys ∧ Below w.heap.size w w' ∧ (v'.ownBlock = some g ∨ v'.ownBlock = some w.heap.size) := by
  obtain ⟨v', w', hrun, ho, hg, hat⟩ := L.append (c := c) hown hr hn (by simpa using hlen) hbase ty
  rw [List.nil_append] at ho
  refine ⟨v', w', hrun, ho, ?_, hat⟩
  subst hn
  obtain ⟨i, z, hi, hz, hsize, hby, hzs⟩ := L.info
  by_cases h0 : ys.length = 0
  · -- nothing is appended: the world stands
    have hrun2 : (Builtin.append_ #[T, T] ty #[.slice (some ⟨g, 0, none⟩) 0 0, .slice A ys.length c]).run P w = .ok (.slice (some ⟨g, 0, none⟩) 0 0) w := by
      rw [h0]
      cases A <;> simp [Builtin.append_, run_underlying L.ty, sizeOf, typeInfo, hi, Builtin.lenOf, Builtin.firstCells, loadCells, loadCellsFrom, storeCells]
    rw [hrun2] at hrun
    injection hrun with _ hw
    subst hw
    exact Below.refl _ _
  · obtain ⟨b, off, rfl, _, hc⟩ := hr (by omega)
    have hcells : ∀ j u, (ys.flatMap cells)[j]? = some u → w.cell? ((⟨b, off, none⟩ : Addr).add j) = some u := by
      intro j u hu
      have hadd : (⟨b, off, none⟩ : Addr).add j = ⟨b, off + j, none⟩ := by unfold Addr.add; split <;> simp_all
      rw [hadd]
      exact hc j u hu
    have hb1 : (0 + ys.length) * bytes ≤ 140737488355328 := by
      have : (0 + ys.length) * bytes ≤ 1000000 * 1000 := Nat.mul_le_mul (by omega) L.small
      omega
    have hrun2 := run_append_grow (P := P) w T ty E i z L.ty hi hz ⟨g, 0, none⟩ 0 0 [] (by simp) (by intro j u hu; simp at hu) ⟨b, off, none⟩ ys.length c (ys.flatMap cells) (by rw [hsize]; exact flat_len L.len ys) hcells (by omega) (by omega) (growslice_fits (by omega) (by rw [hby]; exact hb1))
    rw [hrun2] at hrun
    injection hrun with _ hw
    rw [← hw]
    exact Below.alloc (a := w) (w := w.drew) ⟨rfl, rfl, rfl, Nat.le_refl _, fun _ _ => rfl⟩ (Nat.le_refl _) _
theorem op_fresh {o : Oper} {a : Act} {K : Act → World → Prop} {Q : Exit → Act → World → Prop} (L : ElLaw P T E k bytes cells) (s x : Operand) (ho : o.op = .call { callee := .builtin .append, args := #[s, x], argTypes := #[T, T] })
    (hs : a.eval s = .slice (some ⟨g, 0, none⟩) 0 0) (hown : Own w base E k cells (.slice (some ⟨g, 0, none⟩) 0 0) []) (hn : ys.length = n) (hx : a.eval x = .slice A n c) (hr : Rd w B cells A ys) (hlen : n ≤ 1000000) (hbase : base ≤ w.heap.size)
    (h : ∀ v' w', Own w' base E k cells v' ys → Below w.heap.size w w' → (v'.ownBlock = some g ∨ v'.ownBlock = some w.heap.size) → K (a.put o.dst v') w') : o.wp P a w K Q := by
  obtain ⟨v', w', hrun, h2, h3, h4⟩ := L.fresh (c := c) hown hr hn hlen hbase o.type
  unfold Oper.wp execOp
  simp only [ho, resolve, invoke, builtin, Sem.run_bind, Sem.run_pure, Result.andThen_ok, List.map_toArray, List.map_cons, List.map_nil, hs, hx, hrun]
  exact h v' w' h2 h3 h4
theorem wpList_fresh {ops : Array Oper} {rest : List Oper} {o : Oper} {a : Act} {Q : Exit → Act → World → Prop} (L : ElLaw P T E k bytes cells) (hgd : o.guard = none) (s x : Operand) (ho : o.op = .call { callee := .builtin .append, args := #[s, x], argTypes := #[T, T] })
    (hs : a.eval s = .slice (some ⟨g, 0, none⟩) 0 0) (hown : Own w base E k cells (.slice (some ⟨g, 0, none⟩) 0 0) []) (hn : ys.length = n) (hx : a.eval x = .slice A n c) (hr : Rd w B cells A ys) (hlen : n ≤ 1000000) (hbase : base ≤ w.heap.size)
    (h : ∀ v' w', Own w' base E k cells v' ys → Below w.heap.size w w' → (v'.ownBlock = some g ∨ v'.ownBlock = some w.heap.size) → wpList P ops Q rest (a.put o.dst v') w') : wpList P ops Q (o :: rest) a w :=
  wpList_plain hgd fun _ hK => op_fresh L s x ho hs hown hn hx hr hlen hbase fun v' w' h2 h3 h4 => hK _ _ (h v' w' h2 h3 h4)
end
end Go.Proofs.Ytmbhnjpaieimbaa
