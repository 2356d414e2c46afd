/- Arguments that are small words: uint8, uint16, and lists of uint32 and uint8. -/
import Derived.Test.YtgklcilpohkpkaaOpenC
set_option linter.unusedVariables false
set_option linter.unusedSimpArgs false
namespace Go.Proofs.Ytgklcilpohkpkaa
open Go.RowKit Go.Shelf Go.WideShapes Go.ChangeShapes Go.ChangeAt
theorem bounds_u8 {n : Int} (h : (Lit.int .u8 n).wf = true) : 0 ≤ n ∧ n ≤ 255 := by
  simp [Lit.wf, IntKind.min, IntKind.max, IntKind.signed, IntKind.bits] at h
  omega
theorem bounds_u16 {n : Int} (h : (Lit.int .u16 n).wf = true) : 0 ≤ n ∧ n ≤ 65535 := by
  simp [Lit.wf, IntKind.min, IntKind.max, IntKind.signed, IntKind.bits] at h
  omega
set_option maxRecDepth 100000 in
theorem open_u8 {H : Type} {enc : TypeId × Value → H} {W : World} {base b' : Nat} {spare : Nat → Bool} {held : Bool} {v : Value} {d : DataW H} {p : List MemPlace}
    (hv : Value.okWide Try.prog W .any b' 5 v) (h : DataW.Trod enc Try.prog W base spare held 5 v d p) : ∃ n : Nat, v = .int .u8 (n : Int) ∧ n ≤ 255 := by
  obtain ⟨x, rfl, _, _, wx⟩ := open_int Try.underlying5 hv h
  have h := bounds_u8 wx
  exact ⟨x.toNat, by rw [Int.toNat_of_nonneg h.1], by omega⟩
set_option maxRecDepth 100000 in
theorem open_u16 {H : Type} {enc : TypeId × Value → H} {W : World} {base b' : Nat} {spare : Nat → Bool} {held : Bool} {v : Value} {d : DataW H} {p : List MemPlace}
    (hv : Value.okWide Try.prog W .any b' 96 v) (h : DataW.Trod enc Try.prog W base spare held 96 v d p) : ∃ n : Nat, v = .int .u16 (n : Int) ∧ n ≤ 65535 := by
  obtain ⟨x, rfl, _, _, wx⟩ := open_int Try.underlying96 hv h
  have h := bounds_u16 wx
  exact ⟨x.toNat, by rw [Int.toNat_of_nonneg h.1], by omega⟩
end Go.Proofs.Ytgklcilpohkpkaa
