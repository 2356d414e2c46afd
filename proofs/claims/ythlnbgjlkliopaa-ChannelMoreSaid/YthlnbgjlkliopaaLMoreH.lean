/- ChannelMore: with more flow, a longer turn, less seepage, and canals that stay wet longer, no field gets less for sure; and what is known better is told no wider: the law returns true for every net, flow, uses, and numbers that say how much. No conditions. -/
import Derived.Test.YthlnbgjlkliopaaLMore
import Derived.Test.YthlnbgjlkliopaaOpenC
import Derived.Carry
set_option linter.unusedVariables false
set_option linter.unusedSimpArgs false
namespace Go.Proofs.Ythlnbgjlkliopaa
open Go.RowKit Go.Shelf Go.WideShapes Go.ChangeShapes Go.ChangeAt Go.Deep
set_option maxRecDepth 100000 in
theorem channelMore_lifted (os : Os) (started : os.Started) (H : Type) (enc : TypeId × Value → H) :
    ReturnsInHanded {} Try.checked os 3 .any (Rows.channelMoreSpec.pre6 enc Try.prog Try.f3 Rows.channelMoreRow.domain false) (Rows.channelMoreSpec.post enc Try.prog Try.f3 false true false false) := by
  refine law_lifted os started H enc (s := Rows.channelMoreSpec) Try.func3 (by kernel_rfl) ?_ rfl Try.underlying4 rfl (of_decide_eq_true (by kernel_rfl))
    (ChangeSpec.witness6 (enc := enc) (C := Try.checked) false ⟨#[], #[.agg #[.slice none 0 0, .slice none 0 0, .int .i64 0, .int .i64 0], .agg #[.int .i64 0, .int .i64 0], .slice none 0 0, .slice none 0 0], []⟩ 8 (by kernel_rfl) (by kernel_rfl) (by kernel_rfl) (by kernel_rfl)) ?_
  · intro ds hds
    match ds, hds with
    | [a, b, c, d], _ => rfl
  · intro W base args ds ps hval hA hlt
    rw [Try.params3] at hA hval
    obtain ⟨v0, v1, v2, v3, d0, d1, d2, d3, p0, p1, p2, p3, rfl, rfl, rfl, h0, h1, h2, h3⟩ := trodAll_four hA
    obtain ⟨Ac, nc, cc, Af, nf, cf, dry, days, cs, fs, rfl, hnc, hnf, _, _, hcs, hfs, _, _, _, _⟩ := open_net (hval 0 _ v0 rfl rfl) h0
    obtain ⟨⟨a, b⟩, e1, _⟩ := open_val shape_sp Try.underlying27 (hval 1 _ v1 rfl rfl) h1
    rw [show (v1 : Value) = .agg #[.int .i64 a, .int .i64 b] from e1]
    obtain ⟨Au, nu, cu, us, rfl, hnu, _, hus, _⟩ := open_sl shape_us Try.underlying28 cells_us Us.len (by omega) (hval 2 _ v2 rfl rfl) h2
    obtain ⟨Ab, nb, cb, bys, rfl, hnb, hnb2, hby, h32⟩ := open_sl shape_u32 Try.underlying29 cells_u32 u32cell_len (by omega) (hval 3 _ v3 rfl rfl) h3
    exact more_walk Ac Af Au Ab nc cc nf cf nu cu nb cb dry days a b cs fs us bys W hnc hnf hnu hnb hnb2 hcs hfs hus hby h32

theorem channelMore_holds : Rows.ChannelMoreSaid :=
  OpenClaim.holds_of_wide 3 Try.f3 rfl rfl rfl rfl rfl rfl rfl ⟨rfl, rfl, rfl, rfl, rfl⟩ rfl rfl rfl rfl rfl (by kernel_rfl) Try.func3 (by kernel_rfl)
    (of_decide_eq_true (by kernel_rfl)) (by unfold Func.isWrapper; rw [if_neg (of_decide_eq_false (by kernel_rfl))]; exact ⟨rfl, rfl⟩)
    (fun os started H enc _ => channelMore_lifted os started H enc)
#print axioms channelMore_holds
end Go.Proofs.Ythlnbgjlkliopaa
