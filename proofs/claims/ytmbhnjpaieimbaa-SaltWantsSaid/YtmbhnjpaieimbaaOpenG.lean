/- How a law's arguments are opened: integers, structs of them by value, slices of those. -/
import Derived.Test.YtmbhnjpaieimbaaLaw
import Derived.Test.YtmbhnjpaieimbaaBase
set_option linter.unusedVariables false
set_option linter.unusedSimpArgs false
namespace Go.Proofs.Ytmbhnjpaieimbaa
open Go.RowKit Go.Shelf Go.WideShapes Go.ChangeShapes Go.ChangeAt Go.Deep

/-- What every reading of a type's cells is. -/
def Shape {α : Type} (t : TypeId) (rep : α → List Value) (ok : α → Prop) : Prop :=
  ∀ (H : Type) (enc : TypeId × Value → H) (w : World) (base : Nat) (spare : Nat → Bool) (held : Bool) (fuel : Nat) (cs : List Value) (x : DataW H × List MemPlace), DataW.trod enc Try.prog w base spare held fuel t cs = some x → ∃ a : α, cs = rep a ∧ ok a

def i64ok (n : Int) : Prop := -9223372036854775808 ≤ n ∧ n ≤ 9223372036854775807
theorem i64ok_of {n : Int} (h : (Lit.int .i64 n).wf = true) : i64ok n := bounds_i64 h
theorem shape_int : Shape 3 icell i64ok := fun H enc w base spare held fuel cs x h => by
  obtain ⟨n, rfl, _, hw⟩ := DataW.trod_int Try.underlying3 h
  exact ⟨n, rfl, i64ok_of hw⟩

/-- A struct's fields, each out of its own cells. -/
theorem trod_field {H : Type} {enc : TypeId × Value → H} {P : Program} {w : World} {base : Nat} {spare : Nat → Bool} {held : Bool} {fuel : Nat} {t : TypeId} {cs : List Value} {x : DataW H × List MemPlace} {fs : Array Field}
    (ht : P.underlying t = some (.struct fs)) (h : DataW.trod enc P w base spare held fuel t cs = some x) :
    cs.length = P.cellsOf t ∧ ∀ (i : Nat) (f : Field), fs[i]? = some f → ∃ n y, DataW.trod enc P w base spare held n f.type ((cs.drop f.offset).take (P.cellsOf f.type)) = some y := by
  obtain ⟨xs, n, _, _, hl, hlen, hf⟩ := DataW.trod_struct ht h
  refine ⟨hl, fun i f hi => ⟨n, ?_⟩⟩
  have hi' : i < xs.length := by rw [hlen]; exact (Array.getElem?_eq_some_iff.1 hi).1
  rw [hf i f hi, List.getElem?_eq_getElem hi']
  exact ⟨_, rfl⟩

def Sp.wf (s : Sp) : Prop := i64ok s.lo ∧ i64ok s.hi

theorem cells_int : Try.prog.cellsOf 3 = 1 := by kernel_rfl
theorem cells_sp : Try.prog.cellsOf 23 = 2 := by kernel_rfl

theorem trod_sub {α : Type} {t ft : TypeId} {off k : Nat} {rep : α → List Value} {ok : α → Prop} {H : Type} {enc : TypeId × Value → H} {w : World} {base : Nat} {spare : Nat → Bool} {held : Bool} {fuel : Nat} {cs : List Value} {x : DataW H × List MemPlace} {fs : Array Field}
    (ht : Try.prog.underlying t = some (.struct fs)) (h : DataW.trod enc Try.prog w base spare held fuel t cs = some x) (i : Nat) {f : Field} (hi : fs[i]? = some f) (hft : f.type = ft) (hoff : f.offset = off) (hk : Try.prog.cellsOf ft = k) (hs : Shape ft rep ok) :
    ∃ a, (cs.drop off).take k = rep a ∧ ok a := by
  obtain ⟨_, hf⟩ := trod_field ht h
  obtain ⟨_, _, h0⟩ := hf i f hi
  rw [hft, hoff, hk] at h0
  exact hs _ _ _ _ _ _ _ _ _ h0

theorem shape_sp : Shape 23 Sp.cells Sp.wf := fun H enc w base spare held fuel cs x h => by
  have hl := (trod_field Try.underlying23 h).1
  rw [cells_sp] at hl
  obtain ⟨a, e0, o0⟩ := trod_sub Try.underlying23 h 0 rfl rfl rfl cells_int shape_int
  obtain ⟨b, e1, o1⟩ := trod_sub Try.underlying23 h 1 rfl rfl rfl cells_int shape_int
  match cs, hl with
  | [c0, c1], _ =>
    refine ⟨⟨a, b⟩, ?_, o0, o1⟩
    simp [icell] at e0 e1
    rw [e0, e1]; rfl
set_option maxRecDepth 100000 in
/-- A struct by value. -/
theorem open_val {α : Type} {t : TypeId} {rep : α → List Value} {ok : α → Prop} (hs : Shape t rep ok) {fs : Array Field} (ht : Try.prog.underlying t = some (.struct fs)) {H : Type} {enc : TypeId × Value → H} {W : World} {base b' : Nat} {spare : Nat → Bool} {held : Bool} {v : Value} {d : DataW H} {p : List MemPlace}
    (hv : Value.okWide Try.prog W .any b' t v) (h : DataW.Trod enc Try.prog W base spare held t v d p) : ∃ a : α, v = .agg (rep a).toArray ∧ ok a := by
  obtain ⟨cs, rfl, _⟩ := okWide_struct ht hv
  obtain ⟨fuel, hf⟩ := h
  obtain ⟨a, e, o⟩ := hs _ _ _ _ _ _ _ _ _ hf
  refine ⟨a, ?_, o⟩
  have : cs.toList = rep a := e
  rw [← this]
set_option maxRecDepth 100000 in
theorem open_i64 {H : Type} {enc : TypeId × Value → H} {W : World} {base b' : Nat} {spare : Nat → Bool} {held : Bool} {v : Value} {d : DataW H} {p : List MemPlace}
    (hv : Value.okWide Try.prog W .any b' 3 v) (h : DataW.Trod enc Try.prog W base spare held 3 v d p) : ∃ n, v = .int .i64 n ∧ i64ok n := by
  obtain ⟨x, rfl, _, _, wx⟩ := open_int Try.underlying3 hv h
  exact ⟨x, rfl, i64ok_of wx⟩

set_option maxRecDepth 100000 in
/-- A slice among a struct's cells. -/
theorem open_sl_cs {α : Type} {t e : TypeId} {rep : α → List Value} {ok : α → Prop} {k : Nat} (hs : Shape e rep ok) (ht : Try.prog.underlying t = some (.slice e)) (hC : Try.prog.cellsOf e = k) (hk : ∀ a, (rep a).length = k) (hk0 : 0 < k)
    {H : Type} {enc : TypeId × Value → H} {W : World} {base : Nat} {spare : Nat → Bool} {held : Bool} {fuel : Nat} {cs : List Value} {y : DataW H × List MemPlace}
    (hf : DataW.trod enc Try.prog W base spare held fuel t cs = some y) :
    ∃ A n c, ∃ xs : List α, cs = [.slice A n c] ∧ n = xs.length ∧ n ≤ 9223372036854775807 ∧ Rd W W.heap.size rep A xs ∧ ∀ x ∈ xs, ok x := by
  rcases open_slice ht hf with ⟨hcs, _⟩ | ⟨a, len, cap, m, n, D, Pl, hcs, _, hl, hm, hmm, _, hi⟩
  · subst hcs
    exact ⟨none, 0, 0, [], rfl, rfl, by omega, Rd.nil _ _ _ _, by simp⟩
  · subst hcs
    have hle : len ≤ m := by rw [hmm]; split <;> omega
    have hex : ∀ i, i < len → ∃ x : α, ok x ∧ ∀ j u, (rep x)[j]? = some u → W.cell? (a.add (i * k + j)) = some u := fun i hlt => by
      obtain ⟨cs', hc, ht'⟩ := hi i (by omega)
      rw [hC] at hc
      obtain ⟨x, rfl, o⟩ := hs _ _ _ _ _ _ _ _ _ ht'
      obtain ⟨_, hcl, hat⟩ := World.cells?_some hc
      refine ⟨x, o, fun j u hu => ?_⟩
      have hj : j < k := by rw [← hcl]; exact (List.getElem?_eq_some_iff.1 hu).1
      have := hat j hj
      rw [hu, add_add] at this
      exact this
    rcases Nat.eq_zero_or_pos len with h0 | h0
    · subst h0
      exact ⟨some a, 0, cap, [], rfl, rfl, by omega, Rd.nil _ _ _ _, by simp⟩
    · obtain ⟨x0, _, _⟩ := hex 0 h0
      haveI : Inhabited α := ⟨x0⟩
      obtain ⟨f, hfx⟩ := choose_lt hex
      have hspot : a.spot = none ∧ a.block < W.heap.size := by
        have h1 : 0 < (rep (f 0)).length := by rw [hk]; exact hk0
        have h2 := (hfx 0 h0).2 0 _ (List.getElem?_eq_getElem h1)
        rw [show 0 * k + 0 = 0 by omega] at h2
        have h3 : a.add 0 = a := by simp [Addr.add]
        rw [h3] at h2
        refine ⟨?_, World.block_lt_of_cell? W a h2⟩
        unfold World.cell? at h2
        split at h2
        · split at h2
          · cases h2
          · rename_i hn; simpa using hn
        · cases h2
      have hA : a = ⟨a.block, a.off, none⟩ := by
        obtain ⟨ab, ao, sp⟩ := a
        simp only at hspot
        rw [hspot.1]
      refine ⟨some a, len, cap, (List.range len).map f, rfl, by simp, by simp only [maxLen] at hm; omega, fun _ => ⟨a.block, a.off, by rw [← hA], hspot.2, ?_⟩, ?_⟩
      · intro j u hu
        have hlen := flat_len hk ((List.range len).map f)
        have hj : j < len * k := by
          have := (List.getElem?_eq_some_iff.1 hu).1
          rw [hlen] at this
          simpa using this
        have hik : j / k < len := Nat.div_lt_of_lt_mul (by rw [Nat.mul_comm]; exact hj)
        have hdm : j / k * k + j % k = j := by rw [Nat.mul_comm]; exact Nat.div_add_mod j k
        have hx : ((List.range len).map f)[j / k]? = some (f (j / k)) := by simp [hik]
        have h4 := flat_get hk hx (Nat.mod_lt j hk0)
        rw [hdm, hu] at h4
        have h5 := (hfx _ hik).2 _ _ h4.symm
        rw [hdm, hA] at h5
        unfold Addr.add at h5
        split at h5
        · rename_i hz; rw [hz]; simpa using h5
        · exact h5
      · intro x hx
        obtain ⟨i, hi', rfl⟩ := List.mem_map.1 hx
        exact (hfx i (by simpa using hi')).1
set_option maxRecDepth 100000 in
/-- A slice of elements of some cells. -/
theorem open_sl {α : Type} {t e : TypeId} {rep : α → List Value} {ok : α → Prop} {k : Nat} (hs : Shape e rep ok) (ht : Try.prog.underlying t = some (.slice e)) (hC : Try.prog.cellsOf e = k) (hk : ∀ a, (rep a).length = k) (hk0 : 0 < k)
    {H : Type} {enc : TypeId × Value → H} {W : World} {base b' : Nat} {spare : Nat → Bool} {held : Bool} {v : Value} {d : DataW H} {p : List MemPlace}
    (hv : Value.okWide Try.prog W .any b' t v) (h : DataW.Trod enc Try.prog W base spare held t v d p) :
    ∃ A n c, ∃ xs : List α, v = .slice A n c ∧ n = xs.length ∧ n ≤ 9223372036854775807 ∧ Rd W W.heap.size rep A xs ∧ ∀ x ∈ xs, ok x := by
  obtain ⟨a0, len, cap, rfl⟩ := okWide_slice ht hv
  obtain ⟨fuel, hf⟩ := h
  rcases open_slice ht hf with ⟨hcs, _⟩ | ⟨a, len', cap', m, n, D, Pl, hcs, _, hl, hm, hmm, _, hi⟩
  · simp [Value.cells] at hcs
    obtain ⟨rfl, rfl, rfl⟩ := hcs
    exact ⟨none, 0, 0, [], rfl, rfl, by omega, Rd.nil _ _ _ _, by simp⟩
  · simp [Value.cells] at hcs
    obtain ⟨rfl, rfl, rfl⟩ := hcs
    have hle : len ≤ m := by rw [hmm]; split <;> omega
    have hex : ∀ i, i < len → ∃ x : α, ok x ∧ ∀ j u, (rep x)[j]? = some u → W.cell? (a.add (i * k + j)) = some u := fun i hlt => by
      obtain ⟨cs', hc, ht'⟩ := hi i (by omega)
      rw [hC] at hc
      obtain ⟨x, rfl, o⟩ := hs _ _ _ _ _ _ _ _ _ ht'
      obtain ⟨_, hcl, hat⟩ := World.cells?_some hc
      refine ⟨x, o, fun j u hu => ?_⟩
      have hj : j < k := by rw [← hcl]; exact (List.getElem?_eq_some_iff.1 hu).1
      have := hat j hj
      rw [hu, add_add] at this
      exact this
    rcases Nat.eq_zero_or_pos len with h0 | h0
    · subst h0
      exact ⟨some a, 0, cap, [], rfl, rfl, by omega, Rd.nil _ _ _ _, by simp⟩
    · obtain ⟨x0, _, _⟩ := hex 0 h0
      haveI : Inhabited α := ⟨x0⟩
      obtain ⟨f, hfx⟩ := choose_lt hex
      have hspot : a.spot = none ∧ a.block < W.heap.size := by
        have h1 : 0 < (rep (f 0)).length := by rw [hk]; exact hk0
        have h2 := (hfx 0 h0).2 0 _ (List.getElem?_eq_getElem h1)
        rw [show 0 * k + 0 = 0 by omega] at h2
        have h3 : a.add 0 = a := by simp [Addr.add]
        rw [h3] at h2
        refine ⟨?_, World.block_lt_of_cell? W a h2⟩
        unfold World.cell? at h2
        split at h2
        · split at h2
          · cases h2
          · rename_i hn; simpa using hn
        · cases h2
      have hA : a = ⟨a.block, a.off, none⟩ := by
        obtain ⟨ab, ao, sp⟩ := a
        simp only at hspot
        rw [hspot.1]
      refine ⟨some a, len, cap, (List.range len).map f, rfl, by simp, by simp only [maxLen] at hm; omega, fun _ => ⟨a.block, a.off, by rw [← hA], hspot.2, ?_⟩, ?_⟩
      · intro j u hu
        have hlen := flat_len hk ((List.range len).map f)
        have hj : j < len * k := by
          have := (List.getElem?_eq_some_iff.1 hu).1
          rw [hlen] at this
          simpa using this
        have hik : j / k < len := Nat.div_lt_of_lt_mul (by rw [Nat.mul_comm]; exact hj)
        have hdm : j / k * k + j % k = j := by rw [Nat.mul_comm]; exact Nat.div_add_mod j k
        have hx : ((List.range len).map f)[j / k]? = some (f (j / k)) := by simp [hik]
        have h4 := flat_get hk hx (Nat.mod_lt j hk0)
        rw [hdm, hu] at h4
        have h5 := (hfx _ hik).2 _ _ h4.symm
        rw [hdm, hA] at h5
        unfold Addr.add at h5
        split at h5
        · rename_i hz; rw [hz]; simpa using h5
        · exact h5
      · intro x hx
        obtain ⟨i, hi', rfl⟩ := List.mem_map.1 hx
        exact (hfx i (by simpa using hi')).1
end Go.Proofs.Ytmbhnjpaieimbaa
