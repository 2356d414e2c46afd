/- Appends with a bound on bytes alone. No program is named here. -/
import Derived.Test.YtmbhnjpaieimbaaApp2
set_option linter.unusedVariables false
set_option linter.unusedSimpArgs false
namespace Go.Proofs.Ytmbhnjpaieimbaa
open Go.RowKit Go.Shelf
section
variable {α : Type} {cells : α → List Value} {P : Program} {T E : TypeId} {k bytes : Nat} {w : World} {base g : Nat} {v : Value} {xs : List α} {B : Nat} {A : Option Addr} {n c : Nat} {ys : List α}
theorem ElLaw.appendB (L : ElLaw P T E k bytes cells) (hown : Own w base E k cells v xs) (hr : Rd w B cells A ys) (hn : ys.length = n) (hb0 : 0 < bytes) (hb1 : (xs.length + n) * bytes ≤ 140737488355328) (hbase : base ≤ w.heap.size) (ty : TypeId) :
    ∃ v' w', (Builtin.append_ #[T, T] ty #[v, .slice A n c]).run P w = .ok v' w' ∧ Own w' base E k cells v' (xs ++ ys) ∧ w.grownBy w' v.ownBlock ∧ (v'.ownBlock = v.ownBlock ∨ v'.ownBlock = some w.heap.size) := by
  subst hn
  obtain ⟨i, z, hi, hz, hsize, hby, hzs⟩ := L.info
  rcases A with _ | ad
  · obtain rfl : ys = [] := by
      rcases ys with _ | ⟨y, ys⟩
      · rfl
      · obtain ⟨b, off, e1, _⟩ := hr (by simp)
        cases e1
    refine ⟨v, w, ?_, by simpa using hown, World.grownBy.refl w _, .inl rfl⟩
    rcases hown.2 with ⟨rfl, _⟩ | ⟨g, cap, cur, rfl, _, _, hnc, _⟩
    · simp [Builtin.append_, run_underlying L.ty, sizeOf, typeInfo, hi, Builtin.lenOf, Builtin.firstCells]
    · simp [Builtin.append_, run_underlying L.ty, sizeOf, typeInfo, hi, Builtin.lenOf, Builtin.firstCells, hnc, storeCells]
  · have hcells : ∀ j u, (ys.flatMap cells)[j]? = some u → w.cell? (ad.add j) = some u := by
      intro j u hu
      have h0 : 0 < ys.length := by
        rcases ys with _ | ⟨y, ys⟩
        · simp at hu
        · simp
      obtain ⟨b, off, e1, _, hc⟩ := hr h0
      injection e1 with e1
      subst e1
      have hadd : (⟨b, off, none⟩ : Addr).add j = ⟨b, off + j, none⟩ := by unfold Addr.add; split <;> simp_all
      rw [hadd]
      exact hc j u hu
    obtain ⟨v', w', hrun, h2, h3, _, h5⟩ := run_append_own_at (P := P) w base T ty E i z k bytes L.ty hi hz hsize hby hzs L.pos v xs.length (xs.flatMap cells) hown ad ys.length c (ys.flatMap cells) (flat_len L.len ys) hcells (flat_one L.one ys) (by have := Nat.le_mul_of_pos_right (xs.length + ys.length) hb0; simp only [maxLen]; omega) hb1 hbase
    exact ⟨v', w', hrun, by unfold Own; rw [List.length_append, List.flatMap_append]; exact h2, h3, h5⟩
theorem op_appB {o : Oper} {a : Act} {K : Act → World → Prop} {Q : Exit → Act → World → Prop} (L : ElLaw P T E k bytes cells) (s x : Operand) (ho : o.op = .call { callee := .builtin .append, args := #[s, x], argTypes := #[T, T] })
    (hs : a.eval s = v) (hown : Own w base E k cells v xs) (hn : ys.length = n) (hx : a.eval x = .slice A n c) (hr : Rd w B cells A ys) (hb0 : 0 < bytes) (hb1 : (xs.length + n) * bytes ≤ 140737488355328) (hbase : base ≤ w.heap.size)
    (h : ∀ v' w', Own w' base E k cells v' (xs ++ ys) → w.grownBy w' v.ownBlock → (v'.ownBlock = v.ownBlock ∨ v'.ownBlock = some w.heap.size) → K (a.put o.dst v') w') : o.wp P a w K Q := by
  obtain ⟨v', w', hrun, h2, h3, h4⟩ := L.appendB (c := c) hown hr hn hb0 hb1 hbase o.type
  unfold Oper.wp execOp
  simp only [ho, resolve, invoke, builtin, Sem.run_bind, Sem.run_pure, Result.andThen_ok, List.map_toArray, List.map_cons, List.map_nil, hs, hx, hrun]
  exact h v' w' h2 h3 h4
theorem ElLaw.freshB (L : ElLaw P T E k bytes cells) (hown : Own w base E k cells (.slice (some ⟨g, 0, none⟩) 0 0) []) (hr : Rd w B cells A ys) (hn : ys.length = n) (hb0 : 0 < bytes) (hb1 : n * bytes ≤ 140737488355328) (hbase : base ≤ w.heap.size) (ty : TypeId) :
    ∃ v' w', (Builtin.append_ #[T, T] ty #[.slice (some ⟨g, 0, none⟩) 0 0, .slice A n c]).run P w = .ok v' w' ∧ Own w' base E k cells v' ys ∧ Below w.heap.size w w' ∧ (v'.ownBlock = some g ∨ v'.ownBlock = some w.heap.size) := by
  obtain ⟨v', w', hrun, ho, hg, hat⟩ := L.appendB (c := c) hown hr hn hb0 (by simpa using hb1) hbase ty
  rw [List.nil_append] at ho
  refine ⟨v', w', hrun, ho, ?_, hat⟩
  subst hn
  obtain ⟨i, z, hi, hz, hsize, hby, hzs⟩ := L.info
  by_cases h0 : ys.length = 0
  · -- nothing is appended: the world stands
    have hrun2 : (Builtin.append_ #[T, T] ty #[.slice (some ⟨g, 0, none⟩) 0 0, .slice A ys.length c]).run P w = .ok (.slice (some ⟨g, 0, none⟩) 0 0) w := by
      rw [h0]
      cases A <;> simp [Builtin.append_, run_underlying L.ty, sizeOf, typeInfo, hi, Builtin.lenOf, Builtin.firstCells, loadCells, loadCellsFrom, storeCells]
    rw [hrun2] at hrun
    injection hrun with _ hw
    subst hw
    exact Below.refl _ _
  · obtain ⟨b, off, rfl, _, hc⟩ := hr (by omega)
    have hcells : ∀ j u, (ys.flatMap cells)[j]? = some u → w.cell? ((⟨b, off, none⟩ : Addr).add j) = some u := by
      intro j u hu
      have hadd : (⟨b, off, none⟩ : Addr).add j = ⟨b, off + j, none⟩ := by unfold Addr.add; split <;> simp_all
      rw [hadd]
      exact hc j u hu
    have hb2 := Nat.le_mul_of_pos_right ys.length hb0
    have hrun2 := run_append_grow (P := P) w T ty E i z L.ty hi hz ⟨g, 0, none⟩ 0 0 [] (by simp) (by intro j u hu; simp at hu) ⟨b, off, none⟩ ys.length c (ys.flatMap cells) (by rw [hsize]; exact flat_len L.len ys) hcells (by omega) (by omega) (growslice_fits (by omega) (by rw [hby, Nat.zero_add]; exact hb1))
    rw [hrun2] at hrun
    injection hrun with _ hw
    rw [← hw]
    exact Below.alloc (a := w) (w := w.drew) ⟨rfl, rfl, rfl, Nat.le_refl _, fun _ _ => rfl⟩ (Nat.le_refl _) _
theorem op_freshB {o : Oper} {a : Act} {K : Act → World → Prop} {Q : Exit → Act → World → Prop} (L : ElLaw P T E k bytes cells) (s x : Operand) (ho : o.op = .call { callee := .builtin .append, args := #[s, x], argTypes := #[T, T] })
    (hs : a.eval s = .slice (some ⟨g, 0, none⟩) 0 0) (hown : Own w base E k cells (.slice (some ⟨g, 0, none⟩) 0 0) []) (hn : ys.length = n) (hx : a.eval x = .slice A n c) (hr : Rd w B cells A ys) (hb0 : 0 < bytes) (hb1 : n * bytes ≤ 140737488355328) (hbase : base ≤ w.heap.size)
    (h : ∀ v' w', Own w' base E k cells v' ys → Below w.heap.size w w' → (v'.ownBlock = some g ∨ v'.ownBlock = some w.heap.size) → K (a.put o.dst v') w') : o.wp P a w K Q := by
  obtain ⟨v', w', hrun, h2, h3, h4⟩ := L.freshB (c := c) hown hr hn hb0 hb1 hbase o.type
  unfold Oper.wp execOp
  simp only [ho, resolve, invoke, builtin, Sem.run_bind, Sem.run_pure, Result.andThen_ok, List.map_toArray, List.map_cons, List.map_nil, hs, hx, hrun]
  exact h v' w' h2 h3 h4
theorem wpList_freshB {ops : Array Oper} {rest : List Oper} {o : Oper} {a : Act} {Q : Exit → Act → World → Prop} (L : ElLaw P T E k bytes cells) (hgd : o.guard = none) (s x : Operand) (ho : o.op = .call { callee := .builtin .append, args := #[s, x], argTypes := #[T, T] })
    (hs : a.eval s = .slice (some ⟨g, 0, none⟩) 0 0) (hown : Own w base E k cells (.slice (some ⟨g, 0, none⟩) 0 0) []) (hn : ys.length = n) (hx : a.eval x = .slice A n c) (hr : Rd w B cells A ys) (hb0 : 0 < bytes) (hb1 : n * bytes ≤ 140737488355328) (hbase : base ≤ w.heap.size)
    (h : ∀ v' w', Own w' base E k cells v' ys → Below w.heap.size w w' → (v'.ownBlock = some g ∨ v'.ownBlock = some w.heap.size) → wpList P ops Q rest (a.put o.dst v') w') : wpList P ops Q (o :: rest) a w :=
  wpList_plain hgd fun _ hK => op_freshB L s x ho hs hown hn hx hr hb0 hb1 hbase fun v' w' h2 h3 h4 => hK _ _ (h v' w' h2 h3 h4)
end
end Go.Proofs.Ytmbhnjpaieimbaa
