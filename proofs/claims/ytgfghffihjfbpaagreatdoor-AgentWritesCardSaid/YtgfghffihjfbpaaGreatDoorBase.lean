/- Plain words for memory: typed elements of several cells, a slice that reads as a list (Rd), a row of the call's own (Own), an append by them. No program is named here. -/
import Derived.WalkKit
import Derived.WalkSpells
import Derived.WalkLawsBesides
import Derived.Shelf.Abstract
import Derived.Deep.AppendLies
import Derived.Deep.Draws
import Derived.Deep.Onto
import Derived.Maps.AppendAt
import Derived.RegionTactic
import Derived.Laws.EntriesVeiled
import Derived.Laws.BitsAllLaws
import Derived.Laws.BitsLemmas
set_option linter.unusedVariables false
set_option linter.unusedSimpArgs false
namespace Go.Proofs.YtgfghffihjfbpaaGreatDoor
open Go.RowKit Go.Shelf

theorem hide {p : Prop} (h : p) : Hid p := h

/-! ### 1. The data -/
/-- A span. -/
structure Sp where
  lo : Int
  hi : Int
  deriving DecidableEq
def Sp.cells (s : Sp) : List Value := [.int .i64 s.lo, .int .i64 s.hi]
/-- A reach. -/
structure Rc where
  cap : Sp
  leak : Sp
  gain : Sp
  deriving DecidableEq
def Rc.cells (r : Rc) : List Value := [.int .i64 r.cap.lo, .int .i64 r.cap.hi, .int .i64 r.leak.lo, .int .i64 r.leak.hi, .int .i64 r.gain.lo, .int .i64 r.gain.hi]
/-- A gauge. -/
structure Ga where
  shaft : Int
  flow : Sp
  deriving DecidableEq
def Ga.cells (g : Ga) : List Value := [.int .i64 g.shaft, .int .i64 g.flow.lo, .int .i64 g.flow.hi]
/-- A year. -/
structure Yr where
  fell : Sp
  weight : Int
  deriving DecidableEq
def Yr.cells (y : Yr) : List Value := [.int .i64 y.fell.lo, .int .i64 y.fell.hi, .int .i64 y.weight]
/-- An int. -/
def icell (n : Int) : List Value := [.int .i64 n]

theorem Sp.len (s : Sp) : s.cells.length = 2 := rfl
theorem Rc.len (r : Rc) : r.cells.length = 6 := rfl
theorem Ga.len (g : Ga) : g.cells.length = 3 := rfl
theorem Yr.len (y : Yr) : y.cells.length = 3 := rfl
theorem icell_len (n : Int) : (icell n).length = 1 := rfl
theorem Sp.one (s : Sp) : ∀ u ∈ s.cells, u.oneCell' = true := by simp [Sp.cells, Value.oneCell']
theorem Rc.one (s : Rc) : ∀ u ∈ s.cells, u.oneCell' = true := by simp [Rc.cells, Value.oneCell']
theorem Ga.one (s : Ga) : ∀ u ∈ s.cells, u.oneCell' = true := by simp [Ga.cells, Value.oneCell']
theorem Yr.one (s : Yr) : ∀ u ∈ s.cells, u.oneCell' = true := by simp [Yr.cells, Value.oneCell']
theorem icell_one (n : Int) : ∀ u ∈ icell n, u.oneCell' = true := by simp [icell, Value.oneCell']

/-! ### 2. Lists of cells -/
section
variable {α : Type} {cells : α → List Value} {k : Nat}
theorem flat_len (hk : ∀ x, (cells x).length = k) (xs : List α) : (xs.flatMap cells).length = xs.length * k := by
  induction xs with
  | nil => simp
  | cons x xs ih => simp [hk, ih, Nat.add_mul, Nat.add_comm]
theorem flat_get (hk : ∀ x, (cells x).length = k) {xs : List α} {i : Nat} {x : α} (hx : xs[i]? = some x) {j : Nat} (hj : j < k) : (xs.flatMap cells)[i * k + j]? = (cells x)[j]? := by
  induction xs generalizing i with
  | nil => simp at hx
  | cons y ys ih =>
    cases i with
    | zero =>
      simp at hx
      subst hx
      simp only [List.flatMap_cons, Nat.zero_mul, Nat.zero_add]
      rw [List.getElem?_append_left (by rw [hk]; exact hj)]
    | succ i =>
      simp only [List.getElem?_cons_succ] at hx
      simp only [List.flatMap_cons]
      rw [List.getElem?_append_right (by rw [hk, Nat.add_mul]; omega), hk, show (i + 1) * k + j - k = i * k + j by rw [Nat.add_mul]; omega]
      exact ih hx
theorem flat_one (h1 : ∀ x, ∀ u ∈ cells x, u.oneCell' = true) (xs : List α) : ∀ u ∈ xs.flatMap cells, u.oneCell' = true := by
  intro u hu
  obtain ⟨x, _, h⟩ := List.mem_flatMap.1 hu
  exact h1 x u h
end

/-! ### 3. A slice that reads as a list -/
/-- The slice value '.slice A xs.length c' reads as xs, and lies below block B (of an empty list nothing is said). -/
def Rd {α : Type} (w : World) (B : Nat) (cells : α → List Value) (A : Option Addr) (xs : List α) : Prop :=
  0 < xs.length → ∃ b off, A = some ⟨b, off, none⟩ ∧ b < B ∧ ∀ (j : Nat) (v : Value), (xs.flatMap cells)[j]? = some v → w.cell? ⟨b, off + j, none⟩ = some v

section
variable {α : Type} {cells : α → List Value} {w w' : World} {B B' : Nat} {A : Option Addr} {xs : List α}
theorem Rd.nil (w : World) (B : Nat) (cells : α → List Value) (A : Option Addr) : Rd w B cells A [] := fun h => absurd h (by simp)
theorem Rd.keep (h : Rd w B cells A xs) (hk : ∀ p : Addr, p.block < B → w'.cell? p = w.cell? p) : Rd w' B cells A xs := fun hn => by
  obtain ⟨b, off, e, hB, hc⟩ := h hn
  exact ⟨b, off, e, hB, fun j v hv => (hk ⟨b, off + j, none⟩ hB).trans (hc j v hv)⟩
theorem Rd.more (h : Rd w B cells A xs) (hB : B ≤ B') : Rd w B' cells A xs := fun hn => by
  obtain ⟨b, off, e, hb, hc⟩ := h hn
  exact ⟨b, off, e, by omega, hc⟩
theorem Rd.below (h : Rd w B cells A xs) (hb : Below B w w') : Rd w' B cells A xs := h.keep fun _ hp => hb.cell hp
theorem Rd.sp {A : Option Addr} {xs : List Sp} (h : Rd w B Sp.cells A xs) {i : Nat} (hi : i < xs.length) :
    ∃ b off lo hi, A = some ⟨b, off, none⟩ ∧ b < B ∧ xs[i]? = some ⟨lo, hi⟩ ∧ w.cell? ⟨b, off + i * 2, none⟩ = some (.int .i64 lo) ∧ w.cell? ⟨b, off + i * 2 + 1, none⟩ = some (.int .i64 hi) := by
  obtain ⟨b, off, e, hB, hc⟩ := h (by omega)
  have hx : xs[i]? = some xs[i] := List.getElem?_eq_getElem hi
  exact ⟨b, off, xs[i].lo, xs[i].hi, e, hB, hx, hc _ _ (flat_get Sp.len hx (j := 0) (by omega)), hc _ _ (flat_get Sp.len hx (j := 1) (by omega))⟩
theorem Rd.rc {A : Option Addr} {xs : List Rc} (h : Rd w B Rc.cells A xs) {i : Nat} (hi : i < xs.length) :
    ∃ b off c0 c1 l0 l1 g0 g1, A = some ⟨b, off, none⟩ ∧ b < B ∧ xs[i]? = some ⟨⟨c0, c1⟩, ⟨l0, l1⟩, ⟨g0, g1⟩⟩ ∧ w.cell? ⟨b, off + i * 6, none⟩ = some (.int .i64 c0) ∧ w.cell? ⟨b, off + i * 6 + 1, none⟩ = some (.int .i64 c1) ∧ w.cell? ⟨b, off + i * 6 + 2, none⟩ = some (.int .i64 l0) ∧ w.cell? ⟨b, off + i * 6 + 3, none⟩ = some (.int .i64 l1) ∧ w.cell? ⟨b, off + i * 6 + 4, none⟩ = some (.int .i64 g0) ∧ w.cell? ⟨b, off + i * 6 + 5, none⟩ = some (.int .i64 g1) := by
  obtain ⟨b, off, e, hB, hc⟩ := h (by omega)
  have hx : xs[i]? = some xs[i] := List.getElem?_eq_getElem hi
  exact ⟨b, off, _, _, _, _, _, _, e, hB, hx, hc _ _ (flat_get Rc.len hx (j := 0) (by omega)), hc _ _ (flat_get Rc.len hx (j := 1) (by omega)), hc _ _ (flat_get Rc.len hx (j := 2) (by omega)), hc _ _ (flat_get Rc.len hx (j := 3) (by omega)), hc _ _ (flat_get Rc.len hx (j := 4) (by omega)), hc _ _ (flat_get Rc.len hx (j := 5) (by omega))⟩
theorem Rd.ga {A : Option Addr} {xs : List Ga} (h : Rd w B Ga.cells A xs) {i : Nat} (hi : i < xs.length) :
    ∃ b off s lo hi, A = some ⟨b, off, none⟩ ∧ b < B ∧ xs[i]? = some ⟨s, ⟨lo, hi⟩⟩ ∧ w.cell? ⟨b, off + i * 3, none⟩ = some (.int .i64 s) ∧ w.cell? ⟨b, off + i * 3 + 1, none⟩ = some (.int .i64 lo) ∧ w.cell? ⟨b, off + i * 3 + 2, none⟩ = some (.int .i64 hi) := by
  obtain ⟨b, off, e, hB, hc⟩ := h (by omega)
  have hx : xs[i]? = some xs[i] := List.getElem?_eq_getElem hi
  exact ⟨b, off, _, _, _, e, hB, hx, hc _ _ (flat_get Ga.len hx (j := 0) (by omega)), hc _ _ (flat_get Ga.len hx (j := 1) (by omega)), hc _ _ (flat_get Ga.len hx (j := 2) (by omega))⟩
theorem Rd.yr {A : Option Addr} {xs : List Yr} (h : Rd w B Yr.cells A xs) {i : Nat} (hi : i < xs.length) :
    ∃ b off lo hi wt, A = some ⟨b, off, none⟩ ∧ b < B ∧ xs[i]? = some ⟨⟨lo, hi⟩, wt⟩ ∧ w.cell? ⟨b, off + i * 3, none⟩ = some (.int .i64 lo) ∧ w.cell? ⟨b, off + i * 3 + 1, none⟩ = some (.int .i64 hi) ∧ w.cell? ⟨b, off + i * 3 + 2, none⟩ = some (.int .i64 wt) := by
  obtain ⟨b, off, e, hB, hc⟩ := h (by omega)
  have hx : xs[i]? = some xs[i] := List.getElem?_eq_getElem hi
  exact ⟨b, off, _, _, _, e, hB, hx, hc _ _ (flat_get Yr.len hx (j := 0) (by omega)), hc _ _ (flat_get Yr.len hx (j := 1) (by omega)), hc _ _ (flat_get Yr.len hx (j := 2) (by omega))⟩
theorem Rd.int {A : Option Addr} {xs : List Int} (h : Rd w B icell A xs) {i : Nat} (hi : i < xs.length) :
    ∃ b off n, A = some ⟨b, off, none⟩ ∧ b < B ∧ xs[i]? = some n ∧ w.cell? ⟨b, off + i, none⟩ = some (.int .i64 n) := by
  obtain ⟨b, off, e, hB, hc⟩ := h (by omega)
  have hx : xs[i]? = some xs[i] := List.getElem?_eq_getElem hi
  refine ⟨b, off, _, e, hB, hx, ?_⟩
  have := flat_get icell_len hx (j := 0) (by omega)
  simp only [Nat.mul_one, Nat.add_zero] at this
  exact hc _ _ this
end

/-! ### 4. A row of the call's own -/
def Own {α : Type} (w : World) (base : Nat) (e : TypeId) (k : Nat) (cells : α → List Value) (v : Value) (xs : List α) : Prop := w.ownsRow base e k v xs.length (xs.flatMap cells)

section
variable {α : Type} {cells : α → List Value} {w w' : World} {base : Nat} {e : TypeId} {k : Nat} {v : Value} {xs ys : List α}
theorem Own.nil (w : World) (base : Nat) (e : TypeId) (k : Nat) (cells : α → List Value) : Own w base e k cells (.slice none 0 0) [] := World.ownsRow_nil w base e k
/-- What it reads as. -/
theorem Own.rd (h : Own w base e k cells v xs) : ∃ A c, v = .slice A xs.length c ∧ Rd w w.heap.size cells A xs := by
  have h' := h
  obtain ⟨hl, hn | ⟨g, cap, cur, rfl, hb, hg, hnc, hcm, hcs, ht⟩⟩ := h
  · refine ⟨none, 0, ?_, fun h0 => absurd h0 (by have := hn.2; omega)⟩
    rw [hn.1, hn.2]
  · refine ⟨some ⟨g, 0, none⟩, cap, rfl, fun _ => ⟨g, 0, rfl, (Array.getElem?_eq_some_iff.1 hg).1, fun j u hu => ?_⟩⟩
    have := h'.cells (g := g) rfl j u hu
    have hadd : (⟨g, 0, none⟩ : Addr).add j = ⟨g, 0 + j, none⟩ := by unfold Addr.add; split <;> simp_all
    rwa [hadd] at this
theorem Own.block_ (h : Own w base e k cells v xs) : v.ownBlock = none ∨ ∃ g, v.ownBlock = some g ∧ base ≤ g ∧ g < w.heap.size := by
  cases hv : v.ownBlock with
  | none => exact .inl rfl
  | some g => exact .inr ⟨g, rfl, (World.ownsRow.lt h g hv).1, (World.ownsRow.lt h g hv).2⟩
theorem Own.alloc (h : Own w base e k cells v xs) (o : Obj) : Own (w.alloc o) base e k cells v xs := World.ownsRow.alloc h o
theorem Own.kept {row : Option Nat} (h : Own w base e k cells v xs) (hg : w.grownBy w' row) (hne : v.ownBlock = none ∨ v.ownBlock ≠ row) : Own w' base e k cells v xs := World.ownsRow.kept h hg hne
/-- Behind a step that turns nothing that was there. -/
theorem Own.below (h : Own w base e k cells v xs) (hb : Below w.heap.size w w') : Own w' base e k cells v xs :=
  h.kept (row := none) ⟨hb.os, hb.tape, hb.output, hb.size, fun i hi _ => hb.block i hi⟩ (by cases v.ownBlock <;> simp)
theorem Own.setCell (h : Own w base e k cells v xs) {p : Addr} (hp : v.ownBlock ≠ some p.block) (u : Value) : Own (w.setCell p u) base e k cells v xs :=
  h.kept (row := some p.block) ⟨rfl, rfl, rfl, by simp [World.setCell], fun i _ hne => Below.heap_setCell w p u i (fun e => hne (by rw [e]))⟩ (.inr hp)
theorem below_own (h : Own w base e k cells v xs) {a : World} (hb : Below base a w) (hg : w.grownBy w' v.ownBlock) (hs : base ≤ w.heap.size) : Below base a w' :=
  hb.grown hg hs (fun g hv => (World.ownsRow.lt h g hv).1)
/-- The source of an append: a slice that reads as a list. -/
theorem run_append_rd {P : Program} (w : World) (base : Nat) (t ty e : TypeId) (i : TypeInfo) (z : Value) (k bytes : Nat) (ht : P.underlying t = some (.slice e)) (hi : P.info? e = some i) (hz : i.zero = some z)
    (hsize : i.size = k) (hby : i.bytes = bytes) (hzs : z.cells.size = k) (hk0 : 0 < k) (hk : ∀ x, (cells x).length = k) (h1 : ∀ x, ∀ u ∈ cells x, u.oneCell' = true)
    (v : Value) (xs : List α) (hown : Own w base e k cells v xs) (B : Nat) (A : Option Addr) (c : Nat) (ys : List α) (hr : Rd w B cells A ys)
    (h63 : xs.length + ys.length ≤ maxLen) (hbytes : (xs.length + ys.length) * bytes ≤ 140737488355328) (hbase : base ≤ w.heap.size) :
    ∃ v' w', (Builtin.append_ #[t, t] ty #[v, .slice A ys.length c]).run P w = .ok v' w' ∧ Own w' base e k cells v' (xs ++ ys) ∧ w.grownBy w' v.ownBlock := by
  rcases A with _ | ad
  · obtain rfl : ys = [] := by
      rcases ys with _ | ⟨y, ys⟩
      · rfl
      · obtain ⟨b, off, e1, _⟩ := hr (by simp)
        cases e1
    refine ⟨v, w, ?_, by simpa using hown, World.grownBy.refl w _⟩
    rcases hown.2 with ⟨rfl, _⟩ | ⟨g, cap, cur, rfl, _, _, hnc, _⟩
    · simp [Builtin.append_, run_underlying ht, sizeOf, typeInfo, hi, Builtin.lenOf, Builtin.firstCells]
    · simp [Builtin.append_, run_underlying ht, sizeOf, typeInfo, hi, Builtin.lenOf, Builtin.firstCells, hnc, storeCells]
  · have hcells : ∀ j u, (ys.flatMap cells)[j]? = some u → w.cell? (ad.add j) = some u := by
      intro j u hu
      have h0 : 0 < ys.length := by
        rcases ys with _ | ⟨y, ys⟩
        · simp at hu
        · simp
      obtain ⟨b, off, e1, _, hc⟩ := hr h0
      injection e1 with e1
      subst e1
      have hadd : (⟨b, off, none⟩ : Addr).add j = ⟨b, off + j, none⟩ := by unfold Addr.add; split <;> simp_all
      rw [hadd]
      exact hc j u hu
    obtain ⟨v', w', hrun, h2, h3, _⟩ := run_append_own (P := P) w base t ty e i z k bytes ht hi hz hsize hby hzs hk0 v xs.length (xs.flatMap cells) hown ad ys.length c (ys.flatMap cells) (flat_len hk ys) hcells (flat_one h1 ys) h63 hbytes hbase
    exact ⟨v', w', hrun, by unfold Own; rw [List.length_append, List.flatMap_append]; exact h2, h3⟩

theorem wp_append_rd {P : Program} {o : Oper} {a : Act} {K : Act → World → Prop} {Q : Exit → Act → World → Prop} (w : World) (s x : Operand) (t : TypeId)
    (ho : o.op = .call { callee := .builtin .append, args := #[s, x], argTypes := #[t, t] })
    (base : Nat) (e : TypeId) (i : TypeInfo) (z : Value) (k bytes : Nat) (ht : P.underlying t = some (.slice e)) (hi : P.info? e = some i) (hz : i.zero = some z)
    (hsize : i.size = k) (hby : i.bytes = bytes) (hzs : z.cells.size = k) (hk0 : 0 < k) (hk : ∀ x, (cells x).length = k) (h1 : ∀ x, ∀ u ∈ cells x, u.oneCell' = true)
    (v : Value) (xs : List α) (hs : a.eval s = v) (hown : Own w base e k cells v xs) (B : Nat) (A : Option Addr) (n c : Nat) (ys : List α) (hn : ys.length = n) (hx : a.eval x = .slice A n c) (hr : Rd w B cells A ys)
    (h63 : xs.length + ys.length ≤ maxLen) (hbytes : (xs.length + ys.length) * bytes ≤ 140737488355328) (hbase : base ≤ w.heap.size)
    (h : ∀ v' w', Own w' base e k cells v' (xs ++ ys) → w.grownBy w' v.ownBlock → K (a.put o.dst v') w') : o.wp P a w K Q := by
  subst hn
  obtain ⟨v', w', hrun, h2, h3⟩ := run_append_rd (P := P) w base t o.type e i z k bytes ht hi hz hsize hby hzs hk0 hk h1 v xs hown B A c ys hr h63 hbytes hbase
  unfold Oper.wp execOp
  simp only [ho, resolve, invoke, builtin, Sem.run_bind, Sem.run_pure, Result.andThen_ok, List.map_toArray, List.map_cons, List.map_nil, hs, hx, hrun]
  exact h v' w' h2 h3

theorem wpList_append_rd {P : Program} {ops : Array Oper} {rest : List Oper} {o : Oper} {a : Act} {Q : Exit → Act → World → Prop} (hgd : o.guard = none) (w : World) (s x : Operand) (t : TypeId)
    (ho : o.op = .call { callee := .builtin .append, args := #[s, x], argTypes := #[t, t] })
    (base : Nat) (e : TypeId) (i : TypeInfo) (z : Value) (k bytes : Nat) (ht : P.underlying t = some (.slice e)) (hi : P.info? e = some i) (hz : i.zero = some z)
    (hsize : i.size = k) (hby : i.bytes = bytes) (hzs : z.cells.size = k) (hk0 : 0 < k) (hk : ∀ x, (cells x).length = k) (h1 : ∀ x, ∀ u ∈ cells x, u.oneCell' = true)
    (v : Value) (xs : List α) (hs : a.eval s = v) (hown : Own w base e k cells v xs) (B : Nat) (A : Option Addr) (n c : Nat) (ys : List α) (hn : ys.length = n) (hx : a.eval x = .slice A n c) (hr : Rd w B cells A ys)
    (h63 : xs.length + ys.length ≤ maxLen) (hbytes : (xs.length + ys.length) * bytes ≤ 140737488355328) (hbase : base ≤ w.heap.size)
    (h : ∀ v' w', Own w' base e k cells v' (xs ++ ys) → w.grownBy w' v.ownBlock → wpList P ops Q rest (a.put o.dst v') w') : wpList P ops Q (o :: rest) a w :=
  wpList_plain hgd fun _ hK => wp_append_rd w s x t ho base e i z k bytes ht hi hz hsize hby hzs hk0 hk h1 v xs hs hown B A n c ys hn hx hr h63 hbytes hbase fun v' w' h2 h3 => hK _ _ (h v' w' h2 h3)
end

/-! ### 5. Small words -/
theorem ite_min (a b : Int) : (if b < a then b else a) = min a b := by rw [Int.min_def]; split <;> split <;> omega
theorem ite_max (a b : Int) : (if a < b then b else a) = max a b := by rw [Int.max_def]; split <;> split <;> omega

theorem cell_new (w : World) (cs : Array Value) (t : TypeId) (j : Nat) (v : Value) (h : cs[j]? = some v) : (w.alloc (.cells cs t)).cell? ⟨w.heap.size, j, none⟩ = some v := by
  rw [cell_of_row _ w.heap.size j cs t (0, 0) (heap_alloc_new w _)]
  exact h
theorem below_new (w : World) (o : Obj) : Below w.heap.size w (w.alloc o) := (Below.refl _ _).alloc (Nat.le_refl _) _

/-- A block that has just been laid reads as the list of its cells. -/
theorem Rd.new {α : Type} {cells : α → List Value} (w : World) (cs : Array Value) (t : TypeId) (xs : List α) (h : cs.toList = xs.flatMap cells) : Rd (w.alloc (.cells cs t)) (w.heap.size + 1) cells (some ⟨w.heap.size, 0, none⟩) xs :=
  fun _ => ⟨w.heap.size, 0, rfl, by omega, fun j v hv => by
    rw [Nat.zero_add]
    exact cell_new w cs t j v (by rw [← h] at hv; simpa using hv)⟩

theorem ofInt_i64 (a : Nat) (ha : a < 9223372036854775808) : (BitVec.ofInt 64 (a : Int)).toNat = a := by
  rw [BitVec.ofInt_natCast, BitVec.toNat_ofNat]; exact Nat.mod_eq_of_lt (by omega)
theorem i64_and_nat (a b : Nat) (ha : a < 9223372036854775808) (hb : b < 9223372036854775808) : bits .and .i64 (a : Int) (b : Int) = ((a &&& b : Nat) : Int) := by
  have hx : a &&& b < 2 ^ 63 := Nat.and_lt_two_pow _ (by omega)
  show IntKind.i64.wrap ((BitVec.ofInt 64 (a : Int) &&& BitVec.ofInt 64 (b : Int)).toNat : Int) = _
  rw [BitVec.toNat_and, ofInt_i64 a ha, ofInt_i64 b hb, IntKind.wrap_i64]
  omega
/-- Whether a set holds a number, as Go asks it. -/
theorem bit_test (s k : Nat) (hs : s < 65536) : (bits BinOp.and IntKind.i64 ((s : Int) / 2 ^ k) 1 == 1) = s.testBit k := by
  have h1 : ((s : Int) / 2 ^ k) = ((s / 2 ^ k : Nat) : Int) := by norm_cast
  have h2 : s / 2 ^ k ≤ s := Nat.div_le_self _ _
  rw [h1, show (1 : Int) = ((1 : Nat) : Int) from rfl, i64_and_nat _ _ (by omega) (by omega), Nat.and_one_is_mod, Nat.testBit_eq_decide_div_mod_eq, Bool.eq_iff_iff]
  simp only [beq_iff_eq, decide_eq_true_eq]
  omega
theorem ret_int {k : IntKind} {a b : Int} (h : a = b) : Ending.returned (.int k a) = .returned (.int k b) := by rw [h]
theorem ret_bool {a b : Bool} (h : a = b) : Ending.returned (.bool a) = .returned (.bool b) := by rw [h]

theorem below_drewN {B : Nat} {a w : World} (h : Below B a w) (n : Nat) : Below B a (w.drewN n) := ⟨h.os, h.tape, h.output, h.size, h.block⟩
theorem Rd.drewN {α : Type} {cells : α → List Value} {w : World} {B : Nat} {A : Option Addr} {xs : List α} (h : Rd w B cells A xs) (n : Nat) : Rd (w.drewN n) B cells A xs := h

theorem keep1 {w0 W W' : World} {p : Addr} {v : Value} (hp : p.block < w0.heap.size) (hb : Below W.heap.size W W') (h : W.cell? p = some v ∧ Below w0.heap.size w0 W) : W'.cell? p = some v ∧ Below w0.heap.size w0 W' :=
  ⟨(hb.cell (Nat.lt_of_lt_of_le hp h.2.size)).trans h.1, h.2.trans (hb.mono h.2.size)⟩

theorem keep2 {w w0 W : World} {p : Addr} {v : Value} (h : W.cell? p = some v ∧ Below w0.heap.size w0 W) (hb : Below w.heap.size w w0) : Below w.heap.size w W := hb.trans (h.2.mono hb.size)

theorem flat_set {α : Type} {cells : α → List Value} {k : Nat} (hk : ∀ x, (cells x).length = k) {xs : List α} {i j : Nat} {x x' : α} {u : Value} (hx : xs[i]? = some x) (hj : j < k) (hc : cells x' = (cells x).set j u) :
    (xs.flatMap cells).set (i * k + j) u = (xs.set i x').flatMap cells := by
  induction xs generalizing i with
  | nil => simp at hx
  | cons y ys ih =>
    cases i with
    | zero =>
      simp at hx
      subst hx
      simp only [List.flatMap_cons, Nat.zero_mul, Nat.zero_add, List.set_cons_zero, hc]
      rw [List.set_append_left _ _ (by rw [hk]; exact hj)]
    | succ i =>
      simp only [List.getElem?_cons_succ] at hx
      simp only [List.flatMap_cons, List.set_cons_succ]
      rw [List.set_append_right _ _ (by rw [hk, Nat.add_mul]; omega), hk, show (i + 1) * k + j - k = i * k + j by rw [Nat.add_mul]; omega, ih hx]
/-- A store into one cell of an element of an owned row. -/
theorem Own.put_ {α : Type} {cells : α → List Value} {w : World} {base : Nat} {e : TypeId} {k : Nat} {g n cap : Nat} {xs : List α} (hk : ∀ x, (cells x).length = k) (h : Own w base e k cells (.slice (some ⟨g, 0, none⟩) n cap) xs)
    {i j : Nat} {x x' : α} {u : Value} (hx : xs[i]? = some x) (hj : j < k) (hc : cells x' = (cells x).set j u) (hn : n = xs.length) :
    Own (w.setCell ⟨g, i * k + j, none⟩ u) base e k cells (.slice (some ⟨g, 0, none⟩) n cap) (xs.set i x') ∧ (∃ v, w.cell? ⟨g, i * k + j, none⟩ = some v) ∧ w.frozen? ⟨g, i * k + j, none⟩ = false := by
  subst hn
  have hi : i < xs.length := (List.getElem?_eq_some_iff.1 hx).1
  have hlt : i * k + j < xs.length * k := by
    have : (i + 1) * k ≤ xs.length * k := Nat.mul_le_mul_right _ hi
    rw [Nat.add_mul] at this
    omega
  refine ⟨?_, ?_, World.ownsRow.frozenAt h _⟩
  · unfold Own at h ⊢
    rw [List.length_set, ← flat_set hk hx hj hc]
    exact (World.ownsRow.stored h _ u).1
  · rw [World.ownsRow.cellAt h _ hlt, flat_get hk hx hj]
    exact ⟨_, List.getElem?_eq_getElem (by rw [hk]; exact hj)⟩

theorem Own.mono {α : Type} {cells : α → List Value} {w : World} {base base' : Nat} {e : TypeId} {k : Nat} {v : Value} {xs : List α} (h : Own w base e k cells v xs) (hb : base' ≤ base) : Own w base' e k cells v xs := World.ownsRow.mono h hb
/-! ### 7. A box of several cells -/
/-- The block p of w begins with these cells. -/
def At (w : World) (p : Nat) (cs : List Value) : Prop := p < w.heap.size ∧ ∀ (j : Nat) (v : Value), cs[j]? = some v → w.cell? ⟨p, j, none⟩ = some v
section
variable {w w' : World} {p : Nat} {cs : List Value}
theorem At.below (h : At w p cs) (hb : Below w.heap.size w w') : At w' p cs := ⟨Nat.lt_of_lt_of_le h.1 hb.size, fun j v hv => (hb.cell (p := ⟨p, j, none⟩) h.1).trans (h.2 j v hv)⟩
theorem At.alloc (h : At w p cs) (o : Obj) : At (w.alloc o) p cs := h.below (below_new w o)
theorem At.new (w : World) (cs : Array Value) (t : TypeId) (q : Nat) (hq : q = w.heap.size) (l : List Value) (hl : cs.toList = l) : At (w.alloc (.cells cs t)) q l := by
  subst hq hl
  exact ⟨by simp, fun j v hv => cell_new w cs t j v (by simpa using hv)⟩
theorem At.c1 {v0 : Value} (h : At w p [v0]) : w.cell? ⟨p, 0, none⟩ = some v0 := h.2 0 _ rfl
theorem At.c2 {v0 v1 : Value} (h : At w p [v0, v1]) : w.cell? ⟨p, 0, none⟩ = some v0 ∧ w.cell? ⟨p, 1, none⟩ = some v1 := ⟨h.2 0 _ rfl, h.2 1 _ rfl⟩
theorem At.c3 {v0 v1 v2 : Value} (h : At w p [v0, v1, v2]) : w.cell? ⟨p, 0, none⟩ = some v0 ∧ w.cell? ⟨p, 1, none⟩ = some v1 ∧ w.cell? ⟨p, 2, none⟩ = some v2 := ⟨h.2 0 _ rfl, h.2 1 _ rfl, h.2 2 _ rfl⟩
theorem At.c4 {v0 v1 v2 v3 : Value} (h : At w p [v0, v1, v2, v3]) : w.cell? ⟨p, 0, none⟩ = some v0 ∧ w.cell? ⟨p, 1, none⟩ = some v1 ∧ w.cell? ⟨p, 2, none⟩ = some v2 ∧ w.cell? ⟨p, 3, none⟩ = some v3 := ⟨h.2 0 _ rfl, h.2 1 _ rfl, h.2 2 _ rfl, h.2 3 _ rfl⟩
theorem At.c10 {v0 v1 v2 v3 v4 v5 v6 v7 v8 v9 : Value} (h : At w p [v0, v1, v2, v3, v4, v5, v6, v7, v8, v9]) : w.cell? ⟨p, 0, none⟩ = some v0 ∧ w.cell? ⟨p, 1, none⟩ = some v1 ∧ w.cell? ⟨p, 2, none⟩ = some v2 ∧ w.cell? ⟨p, 3, none⟩ = some v3 ∧ w.cell? ⟨p, 4, none⟩ = some v4 ∧ w.cell? ⟨p, 5, none⟩ = some v5 ∧ w.cell? ⟨p, 6, none⟩ = some v6 ∧ w.cell? ⟨p, 7, none⟩ = some v7 ∧ w.cell? ⟨p, 8, none⟩ = some v8 ∧ w.cell? ⟨p, 9, none⟩ = some v9 := ⟨h.2 0 _ rfl, h.2 1 _ rfl, h.2 2 _ rfl, h.2 3 _ rfl, h.2 4 _ rfl, h.2 5 _ rfl, h.2 6 _ rfl, h.2 7 _ rfl, h.2 8 _ rfl, h.2 9 _ rfl⟩
end
/-! ### 6. Lists, round by round -/
section
variable {α : Type} {p : α → Bool} {xs : List α} {k : Nat} {x : α}
theorem any_hit (hx : xs[k]? = some x) (h : p x = true) : xs.any p = true := List.any_eq_true.2 ⟨x, List.mem_of_getElem? hx, h⟩
theorem pre_nil : ∀ y ∈ xs.take 0, p y = false := by simp
theorem pre_snoc (hx : xs[k]? = some x) (h : p x = false) (hp : ∀ y ∈ xs.take k, p y = false) : ∀ y ∈ xs.take (k + 1), p y = false := by
  intro y hy
  rw [List.take_add_one, hx] at hy
  simp at hy
  rcases hy with hy | rfl
  · exact hp y hy
  · exact h
theorem any_miss (hk : xs.length ≤ k) (hp : ∀ y ∈ xs.take k, p y = false) : xs.any p = false := by
  rw [List.take_of_length_le hk] at hp
  rw [Bool.eq_false_iff]
  intro h
  obtain ⟨y, hy, hpy⟩ := List.any_eq_true.1 h
  rw [hp y hy] at hpy
  cases hpy
theorem take_snoc (hx : xs[k]? = some x) : xs.take (k + 1) = xs.take k ++ [x] := by
  rw [List.take_add_one, hx]; rfl
end

end Go.Proofs.YtgfghffihjfbpaaGreatDoor
