/- How a law's arguments are opened: integers, structs of them by value, slices of those. -/
import Derived.Test.YtmbhnjpaieimbaaOpenG
import Derived.Test.YtmbhnjpaieimbaaS1
set_option linter.unusedVariables false
set_option linter.unusedSimpArgs false
namespace Go.Proofs.Ytmbhnjpaieimbaa
open Go.RowKit Go.Shelf Go.WideShapes Go.ChangeShapes Go.ChangeAt Go.Deep
def So.wf (s : So) : Prop := s.salt.wf ∧ i64ok s.limit ∧ i64ok s.crop ∧ s.mineral.wf ∧ s.wash.wf ∧ s.rise.wf
theorem So.len (s : So) : s.cells.length = 10 := rfl
theorem cells_so : Try.prog.cellsOf 25 = 10 := by kernel_rfl
theorem shape_so : Shape 25 So.cells So.wf := fun H enc w base spare held fuel cs x h => by
  have hl := (trod_field Try.underlying25 h).1
  rw [cells_so] at hl
  obtain ⟨a, e0, o0⟩ := trod_sub Try.underlying25 h 0 rfl rfl rfl cells_sp shape_sp
  obtain ⟨b, e1, o1⟩ := trod_sub Try.underlying25 h 1 rfl rfl rfl cells_int shape_int
  obtain ⟨c, e2, o2⟩ := trod_sub Try.underlying25 h 2 rfl rfl rfl cells_int shape_int
  obtain ⟨d, e3, o3⟩ := trod_sub Try.underlying25 h 3 rfl rfl rfl cells_sp shape_sp
  obtain ⟨e, e4, o4⟩ := trod_sub Try.underlying25 h 4 rfl rfl rfl cells_sp shape_sp
  obtain ⟨f, e5, o5⟩ := trod_sub Try.underlying25 h 5 rfl rfl rfl cells_sp shape_sp
  match cs, hl with
  | [c0, c1, c2, c3, c4, c5, c6, c7, c8, c9], _ =>
    refine ⟨⟨a, b, c, d, e, f⟩, ?_, o0, o1, o2, o3, o4, o5⟩
    simp [Sp.cells, icell] at e0 e1 e2 e3 e4 e5
    rw [e0.1, e0.2, e1, e2, e3.1, e3.2, e4.1, e4.2, e5.1, e5.2]; rfl
end Go.Proofs.Ytmbhnjpaieimbaa
