/- The reference of channel: small functions, by contracts. -/
import Derived.Test.YthlnbgjlkliopaaR1
set_option linter.unusedVariables false
set_option linter.unusedSimpArgs false
namespace Go.Proofs.Ythlnbgjlkliopaa
open Go.RowKit Go.Shelf
/-- The numbers of a list that another one has not. -/
def withoutL (l m : List Int) : List Int := l.filter fun x => !decide (x ∈ m)
theorem withoutL_snoc (l m : List Int) (x : Int) : withoutL (l ++ [x]) m = withoutL l m ++ (if x ∈ m then [] else [x]) := by
  unfold withoutL
  rw [List.filter_append]
  congr 1
  by_cases h : x ∈ m <;> simp [h]
end Go.Proofs.Ythlnbgjlkliopaa
