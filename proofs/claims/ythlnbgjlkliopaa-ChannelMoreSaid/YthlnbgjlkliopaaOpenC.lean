/- How a law's arguments are opened: canals, uses, nets. -/
import Derived.Test.YthlnbgjlkliopaaOpenG
import Derived.Test.YthlnbgjlkliopaaNet
set_option linter.unusedVariables false
set_option linter.unusedSimpArgs false
namespace Go.Proofs.Ythlnbgjlkliopaa
open Go.RowKit Go.Shelf Go.WideShapes Go.ChangeShapes Go.ChangeAt Go.Deep
def Ca.wf (c : Ca) : Prop := i64ok c.frm ∧ c.seep.wf ∧ c.fill.wf
def Us.wf (u : Us) : Prop := i64ok u.field ∧ i64ok u.frm ∧ i64ok u.to
theorem cells_ca : Try.prog.cellsOf 38 = 5 := by kernel_rfl
theorem cells_turn : Try.prog.cellsOf 45 = 2 := by kernel_rfl
theorem cells_us : Try.prog.cellsOf 47 = 3 := by kernel_rfl
theorem shape_ca : Shape 38 Ca.cells Ca.wf := fun H enc w base spare held fuel cs x h => by
  have hl := (trod_field Try.underlying38 h).1
  rw [cells_ca] at hl
  obtain ⟨a, e0, o0⟩ := trod_sub Try.underlying38 h 0 rfl rfl rfl cells_int shape_int
  obtain ⟨b, e1, o1⟩ := trod_sub Try.underlying38 h 1 rfl rfl rfl cells_sp shape_sp
  obtain ⟨c, e2, o2⟩ := trod_sub Try.underlying38 h 2 rfl rfl rfl cells_sp shape_sp
  match cs, hl with
  | [c0, c1, c2, c3, c4], _ =>
    refine ⟨⟨a, b, c⟩, ?_, o0, o1, o2⟩
    simp [Sp.cells, icell] at e0 e1 e2
    rw [e0, e1.1, e1.2, e2.1, e2.2]; rfl
theorem shape_turn : Shape 45 Sp.cells Sp.wf := fun H enc w base spare held fuel cs x h => by
  have hl := (trod_field Try.underlying45 h).1
  rw [cells_turn] at hl
  obtain ⟨a, e0, o0⟩ := trod_sub Try.underlying45 h 0 rfl rfl rfl cells_int shape_int
  obtain ⟨b, e1, o1⟩ := trod_sub Try.underlying45 h 1 rfl rfl rfl cells_int shape_int
  match cs, hl with
  | [c0, c1], _ =>
    refine ⟨⟨a, b⟩, ?_, o0, o1⟩
    simp [icell] at e0 e1
    rw [e0, e1]; rfl
theorem shape_us : Shape 47 Us.cells Us.wf := fun H enc w base spare held fuel cs x h => by
  have hl := (trod_field Try.underlying47 h).1
  rw [cells_us] at hl
  obtain ⟨a, e0, o0⟩ := trod_sub Try.underlying47 h 0 rfl rfl rfl cells_int shape_int
  obtain ⟨b, e1, o1⟩ := trod_sub Try.underlying47 h 1 rfl rfl rfl cells_turn shape_turn
  match cs, hl with
  | [c0, c1, c2], _ =>
    refine ⟨⟨a, b.lo, b.hi⟩, ?_, o0, o1.1, o1.2⟩
    simp [Sp.cells, icell] at e0 e1
    rw [e0, e1.1, e1.2]; rfl
theorem cells_cas : Try.prog.cellsOf 22 = 1 := by kernel_rfl
theorem cells_ints : Try.prog.cellsOf 23 = 1 := by kernel_rfl
theorem cells_net : Try.prog.cellsOf 25 = 4 := by kernel_rfl
theorem trod_at {t ft : TypeId} {off k : Nat} {H : Type} {enc : TypeId × Value → H} {w : World} {base : Nat} {spare : Nat → Bool} {held : Bool} {fuel : Nat} {cs : List Value} {x : DataW H × List MemPlace} {fs : Array Field}
    (ht : Try.prog.underlying t = some (.struct fs)) (h : DataW.trod enc Try.prog w base spare held fuel t cs = some x) (i : Nat) {f : Field} (hi : fs[i]? = some f) (hft : f.type = ft) (hoff : f.offset = off) (hk : Try.prog.cellsOf ft = k) :
    ∃ n y, DataW.trod enc Try.prog w base spare held n ft ((cs.drop off).take k) = some y := by
  obtain ⟨n, y, h0⟩ := (trod_field ht h).2 i f hi
  rw [hft, hoff, hk] at h0
  exact ⟨n, y, h0⟩
set_option maxRecDepth 100000 in
/-- A net by value. -/
theorem open_net {H : Type} {enc : TypeId × Value → H} {W : World} {base b' : Nat} {spare : Nat → Bool} {held : Bool} {v : Value} {d : DataW H} {p : List MemPlace}
    (hv : Value.okWide Try.prog W .any b' 25 v) (h : DataW.Trod enc Try.prog W base spare held 25 v d p) :
    ∃ Ac nc cc Af nf cf dry days, ∃ (cs : List Ca) (fs : List Int), v = .agg #[.slice Ac nc cc, .slice Af nf cf, .int .i64 dry, .int .i64 days] ∧ nc = cs.length ∧ nf = fs.length ∧ nc ≤ 9223372036854775807 ∧ nf ≤ 9223372036854775807 ∧ Rd W W.heap.size Ca.cells Ac cs ∧ Rd W W.heap.size icell Af fs ∧ i64ok dry ∧ i64ok days ∧ (∀ c ∈ cs, c.wf) ∧ (∀ n ∈ fs, i64ok n) := by
  obtain ⟨vs, rfl, _⟩ := okWide_struct Try.underlying25 hv
  obtain ⟨fuel, hf⟩ := h
  obtain ⟨hl, hfd⟩ := trod_field Try.underlying25 hf
  rw [cells_net] at hl
  obtain ⟨n0, y0, h0⟩ := trod_at Try.underlying25 hf 0 rfl rfl rfl cells_cas
  obtain ⟨n1, y1, h1⟩ := trod_at Try.underlying25 hf 1 rfl rfl rfl cells_ints
  obtain ⟨dry, e2, o2⟩ := trod_sub Try.underlying25 hf 2 rfl rfl rfl cells_int shape_int
  obtain ⟨days, e3, o3⟩ := trod_sub Try.underlying25 hf 3 rfl rfl rfl cells_int shape_int
  obtain ⟨Ac, nc, cc, cs, ec, hc1, hc2, hc3, hc4⟩ := open_sl_cs shape_ca Try.underlying22 cells_ca Ca.len (by omega) h0
  obtain ⟨Af, nf, cf, fs, ef, hf1, hf2, hf3, hf4⟩ := open_sl_cs shape_int Try.underlying23 cells_int icell_len (by omega) h1
  have hvs : (Value.agg vs).cells.toList = vs.toList := rfl
  refine ⟨Ac, nc, cc, Af, nf, cf, dry, days, cs, fs, ?_, hc1, hf1, hc2, hf2, hc3, hf3, o2, o3, hc4, hf4⟩
  rw [hvs] at hl ec ef e2 e3
  obtain ⟨l⟩ := vs
  simp only at hl ec ef e2 e3
  match l, hl with
  | [c0, c1, c2, c3], _ =>
    simp [icell] at ec ef e2 e3
    rw [ec, ef, e2, e3]
end Go.Proofs.Ythlnbgjlkliopaa
