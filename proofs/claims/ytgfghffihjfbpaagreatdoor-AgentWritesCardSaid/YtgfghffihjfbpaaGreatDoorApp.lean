/- append, once more: one law per element type, and where the new slice lies; slices of slices. No program is named here. An append of one number, as one step: the literal of one, and what the append keeps. No program is named here. Channel: Dries, by contract. Rows of ints that are made. -/
import Derived.Test.YtgfghffihjfbpaaGreatDoorMap
import Derived.Test.YtgfghffihjfbpaaGreatDoorRegIn
import Derived.Test.YtgfghffihjfbpaaGreatDoorProg
import Derived.Laws.MakeOwn
set_option linter.unusedVariables false
set_option linter.unusedSimpArgs false
namespace Go.Proofs.YtgfghffihjfbpaaGreatDoor
open Go.RowKit Go.Shelf
/-- A call within the wide fence, by the callee's contract. -/
theorem wcall {n : Nat} {P : Program} {f : FuncId} {args : Array Value} {w : World} {R : Ending → World → Prop} (h : Calls P f args w R) : Fence.wide.fn f ∧ CallsIn Fence.wide n P f args w R := ⟨trivial, callsIn_wide.2 h⟩
/-- A type of slices, told once. -/
structure ElLaw (P : Program) (T E : TypeId) (k bytes : Nat) {α : Type} (cells : α → List Value) : Prop where
  ty : P.underlying T = some (.slice E)
  info : ∃ i z, P.info? E = some i ∧ i.zero = some z ∧ i.size = k ∧ i.bytes = bytes ∧ z.cells.size = k
  pos : 0 < k
  len : ∀ x, (cells x).length = k
  one : ∀ x, ∀ u ∈ cells x, u.oneCell' = true
  small : bytes ≤ 1000
theorem elLaw_of {P : Program} {T E : TypeId} {k bytes : Nat} {α : Type} {cells : α → List Value} {z : Value} (ty : P.underlying T = some (.slice E)) (info : (P.info? E).map (fun i => (i.zero, i.size, i.bytes)) = some (some z, k, bytes)) (hz : z.cells.size = k) (pos : 0 < k)
    (len : ∀ x, (cells x).length = k) (one : ∀ x, ∀ u ∈ cells x, u.oneCell' = true) (small : bytes ≤ 1000) : ElLaw P T E k bytes cells := by
  obtain ⟨i0, hi0, hz0, hz1, hz2⟩ := info_parts info
  exact ⟨ty, ⟨i0, z, hi0, hz0, hz1, hz2, hz⟩, pos, len, one, small⟩
section
variable {α : Type} {cells : α → List Value} {P : Program} {T E : TypeId} {k bytes : Nat} {w : World} {base : Nat} {v : Value} {xs : List α} {B : Nat} {A : Option Addr} {n c : Nat} {ys : List α}
theorem ElLaw.append (L : ElLaw P T E k bytes cells) (hown : Own w base E k cells v xs) (hr : Rd w B cells A ys) (hn : ys.length = n) (hlen : xs.length + n ≤ 1000000) (hbase : base ≤ w.heap.size) (ty : TypeId) :
    ∃ v' w', (Builtin.append_ #[T, T] ty #[v, .slice A n c]).run P w = .ok v' w' ∧ Own w' base E k cells v' (xs ++ ys) ∧ w.grownBy w' v.ownBlock ∧ (v'.ownBlock = v.ownBlock ∨ v'.ownBlock = some w.heap.size) := by
  subst hn
  obtain ⟨i, z, hi, hz, hsize, hby, hzs⟩ := L.info
  have hb1 : (xs.length + ys.length) * bytes ≤ 140737488355328 := by
    have : (xs.length + ys.length) * bytes ≤ 1000000 * 1000 := Nat.mul_le_mul hlen L.small
    omega
  rcases A with _ | ad
  · obtain rfl : ys = [] := by
      rcases ys with _ | ⟨y, ys⟩
      · rfl
      · obtain ⟨b, off, e1, _⟩ := hr (by simp)
        cases e1
    refine ⟨v, w, ?_, by simpa using hown, World.grownBy.refl w _, .inl rfl⟩
    rcases hown.2 with ⟨rfl, _⟩ | ⟨g, cap, cur, rfl, _, _, hnc, _⟩
    · simp [Builtin.append_, run_underlying L.ty, sizeOf, typeInfo, hi, Builtin.lenOf, Builtin.firstCells]
    · simp [Builtin.append_, run_underlying L.ty, sizeOf, typeInfo, hi, Builtin.lenOf, Builtin.firstCells, hnc, storeCells]
  · have hcells : ∀ j u, (ys.flatMap cells)[j]? = some u → w.cell? (ad.add j) = some u := by
      intro j u hu
      have h0 : 0 < ys.length := by
        rcases ys with _ | ⟨y, ys⟩
        · simp at hu
        · simp
      obtain ⟨b, off, e1, _, hc⟩ := hr h0
      injection e1 with e1
      subst e1
      have hadd : (⟨b, off, none⟩ : Addr).add j = ⟨b, off + j, none⟩ := by unfold Addr.add; split <;> simp_all
      rw [hadd]
      exact hc j u hu
    obtain ⟨v', w', hrun, h2, h3, _, h5⟩ := run_append_own_at (P := P) w base T ty E i z k bytes L.ty hi hz hsize hby hzs L.pos v xs.length (xs.flatMap cells) hown ad ys.length c (ys.flatMap cells) (flat_len L.len ys) hcells (flat_one L.one ys) (by simp only [maxLen]; omega) hb1 hbase
    exact ⟨v', w', hrun, by unfold Own; rw [List.length_append, List.flatMap_append]; exact h2, h3, h5⟩
/-- At the operation. -/
theorem op_app {o : Oper} {a : Act} {K : Act → World → Prop} {Q : Exit → Act → World → Prop} (L : ElLaw P T E k bytes cells) (s x : Operand) (ho : o.op = .call { callee := .builtin .append, args := #[s, x], argTypes := #[T, T] })
    (hs : a.eval s = v) (hown : Own w base E k cells v xs) (hn : ys.length = n) (hx : a.eval x = .slice A n c) (hr : Rd w B cells A ys) (hlen : xs.length + n ≤ 1000000) (hbase : base ≤ w.heap.size)
    (h : ∀ v' w', Own w' base E k cells v' (xs ++ ys) → w.grownBy w' v.ownBlock → (v'.ownBlock = v.ownBlock ∨ v'.ownBlock = some w.heap.size) → K (a.put o.dst v') w') : o.wp P a w K Q := by
  obtain ⟨v', w', hrun, h2, h3, h4⟩ := L.append (c := c) hown hr hn hlen hbase o.type
  unfold Oper.wp execOp
  simp only [ho, resolve, invoke, builtin, Sem.run_bind, Sem.run_pure, Result.andThen_ok, List.map_toArray, List.map_cons, List.map_nil, hs, hx, hrun]
  exact h v' w' h2 h3 h4
theorem opIn_app {F : Fence} {nF : Nat} {o : Oper} {a : Act} {K : Act → World → Prop} {Q : Exit → Act → World → Prop} (L : ElLaw P T E k bytes cells) (s x : Operand) (ho : o.op = .call { callee := .builtin .append, args := #[s, x], argTypes := #[T, T] })
    (hs : a.eval s = v) (hown : Own w base E k cells v xs) (hn : ys.length = n) (hx : a.eval x = .slice A n c) (hr : Rd w B cells A ys) (hlen : xs.length + n ≤ 1000000) (hbase : base ≤ w.heap.size)
    (h : ∀ v' w', Own w' base E k cells v' (xs ++ ys) → w.grownBy w' v.ownBlock → (v'.ownBlock = v.ownBlock ∨ v'.ownBlock = some w.heap.size) → K (a.put o.dst v') w') : o.wpIn F nF P a w K Q := by
  obtain ⟨v', w', hrun, h2, h3, h4⟩ := L.append (c := c) hown hr hn hlen hbase o.type
  unfold Oper.wpIn
  refine ⟨by simp [Oper.about, ho, resolve, Target.leads, Sem.run_pure], ?_⟩
  rw [Oper.semAt_plain F _ _ (by rw [ho]; intro c hc'; cases hc')]
  simp [execOp, ho, resolve, invoke, builtin, hs, hx, hrun, Result.andThen]
  exact h v' w' h2 h3 h4
theorem wpList_app {ops : Array Oper} {rest : List Oper} {o : Oper} {a : Act} {Q : Exit → Act → World → Prop} (L : ElLaw P T E k bytes cells) (hgd : o.guard = none) (s x : Operand) (ho : o.op = .call { callee := .builtin .append, args := #[s, x], argTypes := #[T, T] })
    (hs : a.eval s = v) (hown : Own w base E k cells v xs) (hn : ys.length = n) (hx : a.eval x = .slice A n c) (hr : Rd w B cells A ys) (hlen : xs.length + n ≤ 1000000) (hbase : base ≤ w.heap.size)
    (h : ∀ v' w', Own w' base E k cells v' (xs ++ ys) → w.grownBy w' v.ownBlock → (v'.ownBlock = v.ownBlock ∨ v'.ownBlock = some w.heap.size) → wpList P ops Q rest (a.put o.dst v') w') : wpList P ops Q (o :: rest) a w :=
  wpList_plain hgd fun _ hK => op_app L s x ho hs hown hn hx hr hlen hbase fun v' w' h2 h3 h4 => hK _ _ (h v' w' h2 h3 h4)
theorem wpListIn_app {F : Fence} {nF : Nat} {ops : Array Oper} {rest : List Oper} {o : Oper} {a : Act} {Q : Exit → Act → World → Prop} (L : ElLaw P T E k bytes cells) (hgd : o.guard = none) (s x : Operand) (ho : o.op = .call { callee := .builtin .append, args := #[s, x], argTypes := #[T, T] })
    (hs : a.eval s = v) (hown : Own w base E k cells v xs) (hn : ys.length = n) (hx : a.eval x = .slice A n c) (hr : Rd w B cells A ys) (hlen : xs.length + n ≤ 1000000) (hbase : base ≤ w.heap.size)
    (h : ∀ v' w', Own w' base E k cells v' (xs ++ ys) → w.grownBy w' v.ownBlock → (v'.ownBlock = v.ownBlock ∨ v'.ownBlock = some w.heap.size) → wpListIn F nF P ops Q rest (a.put o.dst v') w') : wpListIn F nF P ops Q (o :: rest) a w :=
  wpListIn_plain hgd fun _ hK => opIn_app L s x ho hs hown hn hx hr hlen hbase fun v' w' h2 h3 h4 => hK _ _ (h v' w' h2 h3 h4)
end
/-- What an append keeps: everything below where the rows begin; everything that stood but the row itself. -/
theorem kept_app2 {α : Type} {W W1 wv : World} {base : Nat} {e : TypeId} {k : Nat} {cells : α → List Value} {v : Value} {xs : List α} (ho : Own W base e k cells v xs) (hb : Below W.heap.size W W1) (hg : W1.grownBy wv v.ownBlock) : Kept (fun b => ¬ v.ownBlock = some b) W wv :=
  ((Kept.all (fun _ => True) hb).mono fun _ _ _ => trivial).trans ((Kept.grown hg).mono fun b _ hb e => hb e.symm)
/-- A literal of the call's own, of one element or more. -/
theorem Own.lit {α : Type} {cells : α → List Value} (w : World) (e : TypeId) (k : Nat) (cs : Array Value) (xs : List α) (hk : ∀ x, (cells x).length = k) (h : cs.toList = xs.flatMap cells) (hl : xs.length ≤ 1000000) (base : Nat) (hb : base ≤ w.heap.size) :
    Own (w.alloc (.cells cs e)) base e k cells (.slice (some ⟨w.heap.size, 0, none⟩) xs.length xs.length) xs := by
  have h1 : cs.toList.length = xs.length * k := by rw [h]; exact flat_len hk xs
  have h2 : cs.size = xs.length * k := by rw [← Array.length_toList]; exact h1
  refine ⟨flat_len hk xs, .inr ⟨w.heap.size, xs.length, cs, rfl, hb, heap_alloc_new w _, Nat.le_refl _, by simp only [maxLen]; omega, h2, ?_⟩⟩
  rw [h, List.take_of_length_le (by rw [flat_len hk xs]; exact Nat.le_refl _)]
/-! ### slices of slices -/
/-- A slice's own words. -/
structure Sl where
  a : Option Addr
  n : Nat
  c : Nat
def Sl.val (s : Sl) : Value := .slice s.a s.n s.c
def Sl.cells (s : Sl) : List Value := [.slice s.a s.n s.c]
theorem Sl.len (s : Sl) : s.cells.length = 1 := rfl
theorem Sl.one (s : Sl) : ∀ u ∈ s.cells, u.oneCell' = true := by simp [Sl.cells, Value.oneCell']
theorem Rd.sl {w : World} {B : Nat} {A : Option Addr} {xs : List Sl} (h : Rd w B Sl.cells A xs) {i : Nat} (hi : i < xs.length) :
    ∃ b off a n c, A = some ⟨b, off, none⟩ ∧ b < B ∧ xs[i]? = some ⟨a, n, c⟩ ∧ w.cell? ⟨b, off + i, none⟩ = some (.slice a n c) := by
  obtain ⟨b, off, e, hB, hc⟩ := h (by omega)
  have hx : xs[i]? = some xs[i] := List.getElem?_eq_getElem hi
  refine ⟨b, off, _, _, _, e, hB, hx, ?_⟩
  have := flat_get Sl.len hx (j := 0) (by omega)
  simp only [Nat.mul_one, Nat.add_zero] at this
  exact hc _ _ this
/-- Slices that read as lists. -/
structure Rows {α : Type} (w : World) (B : Nat) (cells : α → List Value) (ss : List Sl) (xss : List (List α)) : Prop where
  len : ss.length = xss.length
  row : ∀ (i : Nat) (s : Sl) (xs : List α), ss[i]? = some s → xss[i]? = some xs → s.n = xs.length ∧ Rd w B cells s.a xs
theorem Rows.keep {α : Type} {w w' : World} {B : Nat} {cells : α → List Value} {ss : List Sl} {xss : List (List α)} (h : Rows w B cells ss xss) (hk : ∀ p : Addr, p.block < B → w'.cell? p = w.cell? p) : Rows w' B cells ss xss :=
  ⟨h.len, fun i s xs h1 h2 => ⟨(h.row i s xs h1 h2).1, (h.row i s xs h1 h2).2.keep hk⟩⟩
theorem Rows.below {α : Type} {w w' : World} {B : Nat} {cells : α → List Value} {ss : List Sl} {xss : List (List α)} (h : Rows w B cells ss xss) (hb : Below B w w') : Rows w' B cells ss xss := h.keep fun _ hp => hb.cell hp
theorem Rows.more {α : Type} {w : World} {B B' : Nat} {cells : α → List Value} {ss : List Sl} {xss : List (List α)} (h : Rows w B cells ss xss) (hB : B ≤ B') : Rows w B' cells ss xss :=
  ⟨h.len, fun i s xs h1 h2 => ⟨(h.row i s xs h1 h2).1, (h.row i s xs h1 h2).2.more hB⟩⟩
end Go.Proofs.YtgfghffihjfbpaaGreatDoor
namespace Go.Proofs.YtgfghffihjfbpaaGreatDoor
open Go.RowKit Go.Shelf
section
variable {α : Type} {cells : α → List Value} {P : Program} {T E : TypeId} {k bytes : Nat} {wr : World} {base : Nat} {v : Value} {xs : List α}
theorem wpList_app1 {ops : Array Oper} {rest : List Oper} {o : Oper} {a : Act} {Q : Exit → Act → World → Prop} {cs : Array Value} {ty : TypeId} (L : ElLaw P T E k bytes cells) (hgd : o.guard = none) (s x : Operand)
    (ho : o.op = .call { callee := .builtin .append, args := #[s, x], argTypes := #[T, T] }) (hs : a.eval s = v) (hx : a.eval x = .slice (some ⟨wr.heap.size, 0, none⟩) 1 1) (hown : Own wr base E k cells v xs) (y : α) (hcs : cs.toList = cells y)
    (hlen : xs.length + 1 ≤ 1000000) (hbase : base ≤ wr.heap.size)
    (h : ∀ v' w', Own w' base E k cells v' (xs ++ [y]) → Kept (fun b => b < base) wr w' → wpList P ops Q rest (a.put o.dst v') w') : wpList P ops Q (o :: rest) a (wr.alloc (.cells cs ty)) := by
  refine wpList_app (v := v) (xs := xs) (ys := [y]) (n := 1) L hgd s x ho hs (hown.alloc _) rfl hx (Rd.new wr cs ty [y] (by simpa using hcs)) hlen (by simp; omega) ?_
  intro v' w' h1 h2 _
  refine h v' w' h1 ((Kept.alloc _ wr _).trans ((Kept.grown h2).mono fun b hb hlt e => ?_))
  rcases hown.block_ with h3 | ⟨g, h3, h4, _⟩
  · rw [h3] at e; cases e
  · rw [h3] at e; injection e with e; omega
end
theorem below_keptB {B base : Nat} {w0 w w' : World} (h : Below B w0 w) (hk : Kept (fun b => b < base) w w') (h1 : B ≤ base) (h2 : B ≤ w.heap.size) : Below B w0 w' := h.trans (hk.below (fun b hb => by omega) h2)
theorem Rd.keptB {α : Type} {cells : α → List Value} {B base : Nat} {w w' : World} {A : Option Addr} {xs : List α} (h : Rd w B cells A xs) (hk : Kept (fun b => b < base) w w') (h1 : B ≤ base) (h2 : B ≤ w.heap.size) : Rd w' B cells A xs := h.keptR hk (fun b hb => by omega) h2
theorem At.keptB {p base : Nat} {w w' : World} {cs : List Value} (h : At w p cs) (hk : Kept (fun b => b < base) w w') (hp : p < base) : At w' p cs := h.kept hk hp
theorem Bx.keptB {p base : Nat} {w w' : World} {cs : List Value} (h : Bx w p cs) (hk : Kept (fun b => b < base) w w') (hp : p < base) : Bx w' p cs := h.kept hk hp
end Go.Proofs.YtgfghffihjfbpaaGreatDoor
namespace Go.Proofs.YtgfghffihjfbpaaGreatDoor
open Go.RowKit Go.Shelf
attribute [local go_sem] Oper.semAt_some
theorem el_int : ElLaw Tryz.prog 55 3 1 8 icell := elLaw_of Tryz.underlying55 (z := .int .i64 0) (by kernel_rfl) rfl (by omega) (fun _ => rfl) icell_one (by omega)
theorem el_rows : ElLaw Tryz.prog 112 55 1 24 Sl.cells := elLaw_of Tryz.underlying112 (z := .slice none 0 0) (by kernel_rfl) rfl (by omega) (fun _ => rfl) Sl.one (by omega)
theorem own_block {α : Type} {W : World} {base : Nat} {e : TypeId} {kk : Nat} {cl : α → List Value} {v : Value} {xs : List α} (ho : Own W base e kk cl v xs) {g : Nat} (hg : v.ownBlock = some g) : base ≤ g ∧ g < W.heap.size := by
  rcases ho.block_ with h | ⟨g', h, h1, h2⟩
  · rw [h] at hg; cases hg
  · rw [h] at hg; injection hg with hg; subst hg; exact ⟨h1, h2⟩
theorem Own.rdv {w : World} {base : Nat} {e : TypeId} {a : Option Addr} {n c : Nat} {xs : List Int} (h : Own w base e 1 icell (.slice a n c) xs) : n = xs.length ∧ Rd w w.heap.size icell a xs := by
  obtain ⟨A, c', hv, hr⟩ := h.rd
  injection hv with h1 h2 h3
  subst h1
  exact ⟨h2, hr⟩

theorem Own.keptB {α : Type} {cells : α → List Value} {w w' : World} {base : Nat} {e : TypeId} {k : Nat} {v : Value} {xs : List α} {R : Nat → Prop} (h : Own w base e k cells v xs) (hk : Kept R w w') (hr : ∀ g, v.ownBlock = some g → R g) : Own w' base e k cells v xs := by
  obtain ⟨hl, hn | ⟨g, cap, cur, rfl, hb, hg, rest⟩⟩ := h
  · exact ⟨hl, .inl hn⟩
  · exact ⟨hl, .inr ⟨g, cap, cur, rfl, hb, (hk.same g (hr g rfl) (Array.getElem?_eq_some_iff.1 hg).1).trans hg, rest⟩⟩
end Go.Proofs.YtgfghffihjfbpaaGreatDoor
namespace Go.Proofs.YtgfghffihjfbpaaGreatDoor
open Go.RowKit Go.Shelf
theorem made_ints (n : Nat) : (madeCells #[.int .i64 0] (n * 1)).toList = (List.replicate n (0 : Int)).flatMap icell := by
  apply List.ext_getElem?
  intro j
  by_cases hj : j < n
  · have hx : (List.replicate n (0 : Int))[j]? = some 0 := by rw [List.getElem?_replicate, if_pos hj]
    have h := flat_get icell_len hx (j := 0) (by omega)
    simp only [Nat.mul_one, Nat.add_zero] at h
    rw [h]
    simp [madeCells, hj, icell, Nat.mod_one]
  · rw [List.getElem?_eq_none (by simp [madeCells]; omega), List.getElem?_eq_none (by rw [flat_len icell_len]; simp; omega)]
theorem make_ints (n : Nat) (hn : n ≤ 1000) (w : World) : (Instr.makeSlice 55 (.int .i64 (n : Int)) (.int .i64 (n : Int))).run Tryz.prog w = .ok (.slice (some ⟨w.heap.size, 0, none⟩) n n) (w.alloc (.cells (madeCells #[.int .i64 0] (n * 1)) 3)) := by
  obtain ⟨i, hi, hz, hs, hbt⟩ : ∃ i, Tryz.prog.info? 3 = some i ∧ i.zero = some (.int .i64 0) ∧ i.size = 1 ∧ i.bytes = 8 := by
    have h : (Tryz.prog.info? 3).map (fun i => (i.zero, i.size, i.bytes)) = some (some (.int .i64 0), 1, 8) := by kernel_rfl
    obtain ⟨i, hi, hzz⟩ := Option.map_eq_some_iff.1 h
    simp only [Prod.mk.injEq] at hzz
    exact ⟨i, hi, hzz.1, hzz.2.1, hzz.2.2⟩
  have hrun := run_make (P := Tryz.prog) w 55 3 i (.int .i64 0) Tryz.underlying55 hi hz .i64 .i64 n n (by omega) (Int.le_refl _) (by rw [hbt]; omega) (by omega)
  simp only [Int.toNat_natCast, hs] at hrun
  exact hrun
theorem own_made (n : Nat) (hn : n ≤ 1000) (w : World) (base : Nat) (hb : base ≤ w.heap.size) : Own (w.alloc (.cells (madeCells #[.int .i64 0] (n * 1)) 3)) base 3 1 icell (.slice (some ⟨w.heap.size, 0, none⟩) n n) (List.replicate n 0) := by
  have h := Own.lit (cells := icell) w 3 1 (madeCells #[.int .i64 0] (n * 1)) (List.replicate n 0) icell_len (made_ints n) (by simp; omega) base hb
  rw [List.length_replicate] at h
  exact h
end Go.Proofs.YtgfghffihjfbpaaGreatDoor
