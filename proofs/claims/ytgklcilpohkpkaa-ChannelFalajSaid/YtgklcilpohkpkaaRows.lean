/-
  No cell of these rows narrows 'for every input' (looked for: loops, veiled, ifaces, maps, wideKeys, modest, calm, conditions, laid).
  DERIVED. THE GIVEN ROWS OF THIS SEAT. 12 by the template 'for every input the law returns true; each argument reads behind the call as it read before'; 0 by the template 'total and deterministic' (their statements: YtgklcilpohkpkaaTotals.lean).
  GIVEN WITH THE SEED: the statements are not yours to turn. If you find one false, say at which input.
  Laid BY PROGRAM, IN A SANDBOX (cutbox-rows.mjs): the forced cells as the released guide's own fill.sh prints them over the translation 26621d8a0f5db2a6… (all of the seat's roots in one cut). By AI agents, Wed Nov 11 2026. No macro, syntax, notation, axiom, sorry.
-/
import Derived.Test.YtgklcilpohkpkaaChecked
import GoSem.Claim
import GoSem.ClaimJoined
import GoSem.ClaimMapViews
import Derived.JoinedTies
import Derived.KernelRfl
namespace Go.Proofs.Ytgklcilpohkpkaa
/- THE CELL 'sum', in the pinned program and in every row, IS THE sha256 OF THE DUMP (.gsa) THAT YtgklcilpohkpkaaProg.lean LOADS. Nothing in Lean hashes anything: it is a label: what it is worth is what the hold of that sum in a sandbox is worth. -/
noncomputable def Try.pinned : Pinned := { name := "ytgklcilpohkpkaa", sum := "26621d8a0f5db2a692354c898c8bd274966add66f02e02cfb39f7cce5f376722", checked := Try.checked }
namespace Rows
def none {H : Type} : Left H := { results := [], args := [] }

/-- 'aflajlaw05.ChannelPaths': WHATEVER THE INPUT: true; the input reads as it did. -/
def channelPathsSpec : ChangeSpec := { name := "channelPaths", fn := fun _ => fun
  | [d1, d2, d3, d4] => { results := [.lit (.bool true)], args := [d1, d2, d3, d4] }
  | _ => none }
def channelPathsRow : OpenClaim := { program := "ytgklcilpohkpkaa", sum := "26621d8a0f5db2a692354c898c8bd274966add66f02e02cfb39f7cce5f376722", func := "aflaj/aflajlaw05.ChannelPaths", spec := "channelPaths", unfollowed := true, recurses := true, apart := false }
def ChannelPathsSaid : Prop := channelPathsRow.holds Try.pinned (OpenSpec.ofChange channelPathsSpec)

/-- ITS FALSE NEIGHBOUR: 'it returns false'. Refute it at one input. -/
def channelPathsWrong : ChangeSpec := { name := "channelPaths", fn := fun _ => fun
  | [d1, d2, d3, d4] => { results := [.lit (.bool false)], args := [d1, d2, d3, d4] }
  | _ => none }
def ChannelPathsWrongFalsely : Prop := channelPathsRow.holds Try.pinned (OpenSpec.ofChange channelPathsWrong)

/-- 'aflajlaw05.ChannelWaters': WHATEVER THE INPUT: true; the input reads as it did. -/
def channelWatersSpec : ChangeSpec := { name := "channelWaters", fn := fun _ => fun
  | [d1, d2, d3, d4, d5] => { results := [.lit (.bool true)], args := [d1, d2, d3, d4, d5] }
  | _ => none }
def channelWatersRow : OpenClaim := { program := "ytgklcilpohkpkaa", sum := "26621d8a0f5db2a692354c898c8bd274966add66f02e02cfb39f7cce5f376722", func := "aflaj/aflajlaw05.ChannelWaters", spec := "channelWaters", unfollowed := true, recurses := true, apart := false }
def ChannelWatersSaid : Prop := channelWatersRow.holds Try.pinned (OpenSpec.ofChange channelWatersSpec)

/-- ITS FALSE NEIGHBOUR: 'it returns false'. Refute it at one input. -/
def channelWatersWrong : ChangeSpec := { name := "channelWaters", fn := fun _ => fun
  | [d1, d2, d3, d4, d5] => { results := [.lit (.bool false)], args := [d1, d2, d3, d4, d5] }
  | _ => none }
def ChannelWatersWrongFalsely : Prop := channelWatersRow.holds Try.pinned (OpenSpec.ofChange channelWatersWrong)

/-- 'aflajlaw05.ChannelOrders': WHATEVER THE INPUT: true; the input reads as it did. -/
def channelOrdersSpec : ChangeSpec := { name := "channelOrders", fn := fun _ => fun
  | [d1, d2, d3, d4] => { results := [.lit (.bool true)], args := [d1, d2, d3, d4] }
  | _ => none }
def channelOrdersRow : OpenClaim := { program := "ytgklcilpohkpkaa", sum := "26621d8a0f5db2a692354c898c8bd274966add66f02e02cfb39f7cce5f376722", func := "aflaj/aflajlaw05.ChannelOrders", spec := "channelOrders", unfollowed := true, recurses := true, apart := false }
def ChannelOrdersSaid : Prop := channelOrdersRow.holds Try.pinned (OpenSpec.ofChange channelOrdersSpec)

/-- ITS FALSE NEIGHBOUR: 'it returns false'. Refute it at one input. -/
def channelOrdersWrong : ChangeSpec := { name := "channelOrders", fn := fun _ => fun
  | [d1, d2, d3, d4] => { results := [.lit (.bool false)], args := [d1, d2, d3, d4] }
  | _ => none }
def ChannelOrdersWrongFalsely : Prop := channelOrdersRow.holds Try.pinned (OpenSpec.ofChange channelOrdersWrong)

/-- 'aflajlaw05.ChannelExamples': WHATEVER THE INPUT: true; the input reads as it did. -/
def channelExamplesSpec : ChangeSpec := { name := "channelExamples", fn := fun _ => fun
  | [] => { results := [.lit (.bool true)], args := [] }
  | _ => none }
def channelExamplesRow : OpenClaim := { program := "ytgklcilpohkpkaa", sum := "26621d8a0f5db2a692354c898c8bd274966add66f02e02cfb39f7cce5f376722", func := "aflaj/aflajlaw05.ChannelExamples", spec := "channelExamples", unfollowed := true, recurses := true, apart := false }
def ChannelExamplesSaid : Prop := channelExamplesRow.holds Try.pinned (OpenSpec.ofChange channelExamplesSpec)

/-- ITS FALSE NEIGHBOUR: 'it returns false'. Refute it at one input. -/
def channelExamplesWrong : ChangeSpec := { name := "channelExamples", fn := fun _ => fun
  | [] => { results := [.lit (.bool false)], args := [] }
  | _ => none }
def ChannelExamplesWrongFalsely : Prop := channelExamplesRow.holds Try.pinned (OpenSpec.ofChange channelExamplesWrong)

/-- 'aflajlaw05.ChannelTrue': WHATEVER THE INPUT: true; the input reads as it did. -/
def channelTrueSpec : ChangeSpec := { name := "channelTrue", fn := fun _ => fun
  | [d1, d2, d3, d4] => { results := [.lit (.bool true)], args := [d1, d2, d3, d4] }
  | _ => none }
def channelTrueRow : OpenClaim := { program := "ytgklcilpohkpkaa", sum := "26621d8a0f5db2a692354c898c8bd274966add66f02e02cfb39f7cce5f376722", func := "aflaj/aflajlaw05.ChannelTrue", spec := "channelTrue", unfollowed := true, recurses := true, apart := false }
def ChannelTrueSaid : Prop := channelTrueRow.holds Try.pinned (OpenSpec.ofChange channelTrueSpec)

/-- ITS FALSE NEIGHBOUR: 'it returns false'. Refute it at one input. -/
def channelTrueWrong : ChangeSpec := { name := "channelTrue", fn := fun _ => fun
  | [d1, d2, d3, d4] => { results := [.lit (.bool false)], args := [d1, d2, d3, d4] }
  | _ => none }
def ChannelTrueWrongFalsely : Prop := channelTrueRow.holds Try.pinned (OpenSpec.ofChange channelTrueWrong)

/-- 'aflajlaw05.ChannelDries': WHATEVER THE INPUT: true; the input reads as it did. -/
def channelDriesSpec : ChangeSpec := { name := "channelDries", fn := fun _ => fun
  | [d1, d2] => { results := [.lit (.bool true)], args := [d1, d2] }
  | _ => none }
def channelDriesRow : OpenClaim := { program := "ytgklcilpohkpkaa", sum := "26621d8a0f5db2a692354c898c8bd274966add66f02e02cfb39f7cce5f376722", func := "aflaj/aflajlaw05.ChannelDries", spec := "channelDries", unfollowed := true, recurses := true, apart := false }
def ChannelDriesSaid : Prop := channelDriesRow.holds Try.pinned (OpenSpec.ofChange channelDriesSpec)

/-- ITS FALSE NEIGHBOUR: 'it returns false'. Refute it at one input. -/
def channelDriesWrong : ChangeSpec := { name := "channelDries", fn := fun _ => fun
  | [d1, d2] => { results := [.lit (.bool false)], args := [d1, d2] }
  | _ => none }
def ChannelDriesWrongFalsely : Prop := channelDriesRow.holds Try.pinned (OpenSpec.ofChange channelDriesWrong)

/-- 'aflajlaw05.ChannelMoves': WHATEVER THE INPUT: true; the input reads as it did. -/
def channelMovesSpec : ChangeSpec := { name := "channelMoves", fn := fun _ => fun
  | [d1, d2, d3] => { results := [.lit (.bool true)], args := [d1, d2, d3] }
  | _ => none }
def channelMovesRow : OpenClaim := { program := "ytgklcilpohkpkaa", sum := "26621d8a0f5db2a692354c898c8bd274966add66f02e02cfb39f7cce5f376722", func := "aflaj/aflajlaw05.ChannelMoves", spec := "channelMoves", unfollowed := true, recurses := true, apart := false }
def ChannelMovesSaid : Prop := channelMovesRow.holds Try.pinned (OpenSpec.ofChange channelMovesSpec)

/-- ITS FALSE NEIGHBOUR: 'it returns false'. Refute it at one input. -/
def channelMovesWrong : ChangeSpec := { name := "channelMoves", fn := fun _ => fun
  | [d1, d2, d3] => { results := [.lit (.bool false)], args := [d1, d2, d3] }
  | _ => none }
def ChannelMovesWrongFalsely : Prop := channelMovesRow.holds Try.pinned (OpenSpec.ofChange channelMovesWrong)

/-- 'aflajlaw05.ChannelEnough': WHATEVER THE INPUT: true; the input reads as it did. -/
def channelEnoughSpec : ChangeSpec := { name := "channelEnough", fn := fun _ => fun
  | [d1, d2, d3, d4] => { results := [.lit (.bool true)], args := [d1, d2, d3, d4] }
  | _ => none }
def channelEnoughRow : OpenClaim := { program := "ytgklcilpohkpkaa", sum := "26621d8a0f5db2a692354c898c8bd274966add66f02e02cfb39f7cce5f376722", func := "aflaj/aflajlaw05.ChannelEnough", spec := "channelEnough", unfollowed := true, recurses := true, apart := false }
def ChannelEnoughSaid : Prop := channelEnoughRow.holds Try.pinned (OpenSpec.ofChange channelEnoughSpec)

/-- ITS FALSE NEIGHBOUR: 'it returns false'. Refute it at one input. -/
def channelEnoughWrong : ChangeSpec := { name := "channelEnough", fn := fun _ => fun
  | [d1, d2, d3, d4] => { results := [.lit (.bool false)], args := [d1, d2, d3, d4] }
  | _ => none }
def ChannelEnoughWrongFalsely : Prop := channelEnoughRow.holds Try.pinned (OpenSpec.ofChange channelEnoughWrong)

/-- 'aflajlaw05.ChannelOrder': WHATEVER THE INPUT: true; the input reads as it did. -/
def channelOrderSpec : ChangeSpec := { name := "channelOrder", fn := fun _ => fun
  | [d1, d2, d3, d4, d5] => { results := [.lit (.bool true)], args := [d1, d2, d3, d4, d5] }
  | _ => none }
def channelOrderRow : OpenClaim := { program := "ytgklcilpohkpkaa", sum := "26621d8a0f5db2a692354c898c8bd274966add66f02e02cfb39f7cce5f376722", func := "aflaj/aflajlaw05.ChannelOrder", spec := "channelOrder", unfollowed := true, recurses := true, apart := false }
def ChannelOrderSaid : Prop := channelOrderRow.holds Try.pinned (OpenSpec.ofChange channelOrderSpec)

/-- ITS FALSE NEIGHBOUR: 'it returns false'. Refute it at one input. -/
def channelOrderWrong : ChangeSpec := { name := "channelOrder", fn := fun _ => fun
  | [d1, d2, d3, d4, d5] => { results := [.lit (.bool false)], args := [d1, d2, d3, d4, d5] }
  | _ => none }
def ChannelOrderWrongFalsely : Prop := channelOrderRow.holds Try.pinned (OpenSpec.ofChange channelOrderWrong)

/-- 'aflajlaw05.ChannelTogether': WHATEVER THE INPUT: true; the input reads as it did. -/
def channelTogetherSpec : ChangeSpec := { name := "channelTogether", fn := fun _ => fun
  | [d1, d2, d3, d4, d5] => { results := [.lit (.bool true)], args := [d1, d2, d3, d4, d5] }
  | _ => none }
def channelTogetherRow : OpenClaim := { program := "ytgklcilpohkpkaa", sum := "26621d8a0f5db2a692354c898c8bd274966add66f02e02cfb39f7cce5f376722", func := "aflaj/aflajlaw05.ChannelTogether", spec := "channelTogether", unfollowed := true, recurses := true, apart := false }
def ChannelTogetherSaid : Prop := channelTogetherRow.holds Try.pinned (OpenSpec.ofChange channelTogetherSpec)

/-- ITS FALSE NEIGHBOUR: 'it returns false'. Refute it at one input. -/
def channelTogetherWrong : ChangeSpec := { name := "channelTogether", fn := fun _ => fun
  | [d1, d2, d3, d4, d5] => { results := [.lit (.bool false)], args := [d1, d2, d3, d4, d5] }
  | _ => none }
def ChannelTogetherWrongFalsely : Prop := channelTogetherRow.holds Try.pinned (OpenSpec.ofChange channelTogetherWrong)

/-- 'aflajlaw05.ChannelMore': WHATEVER THE INPUT: true; the input reads as it did. -/
def channelMoreSpec : ChangeSpec := { name := "channelMore", fn := fun _ => fun
  | [d1, d2, d3, d4] => { results := [.lit (.bool true)], args := [d1, d2, d3, d4] }
  | _ => none }
def channelMoreRow : OpenClaim := { program := "ytgklcilpohkpkaa", sum := "26621d8a0f5db2a692354c898c8bd274966add66f02e02cfb39f7cce5f376722", func := "aflaj/aflajlaw05.ChannelMore", spec := "channelMore", unfollowed := true, recurses := true, apart := false }
def ChannelMoreSaid : Prop := channelMoreRow.holds Try.pinned (OpenSpec.ofChange channelMoreSpec)

/-- ITS FALSE NEIGHBOUR: 'it returns false'. Refute it at one input. -/
def channelMoreWrong : ChangeSpec := { name := "channelMore", fn := fun _ => fun
  | [d1, d2, d3, d4] => { results := [.lit (.bool false)], args := [d1, d2, d3, d4] }
  | _ => none }
def ChannelMoreWrongFalsely : Prop := channelMoreRow.holds Try.pinned (OpenSpec.ofChange channelMoreWrong)

/-- 'aflajlaw05.ChannelFalaj': WHATEVER THE INPUT: true; the input reads as it did. -/
def channelFalajSpec : ChangeSpec := { name := "channelFalaj", fn := fun _ => fun
  | [d1, d2, d3, d4, d5] => { results := [.lit (.bool true)], args := [d1, d2, d3, d4, d5] }
  | _ => none }
def channelFalajRow : OpenClaim := { program := "ytgklcilpohkpkaa", sum := "26621d8a0f5db2a692354c898c8bd274966add66f02e02cfb39f7cce5f376722", func := "aflaj/aflajlaw05.ChannelFalaj", spec := "channelFalaj", unfollowed := true, recurses := true, apart := false }
def ChannelFalajSaid : Prop := channelFalajRow.holds Try.pinned (OpenSpec.ofChange channelFalajSpec)

/-- ITS FALSE NEIGHBOUR: 'it returns false'. Refute it at one input. -/
def channelFalajWrong : ChangeSpec := { name := "channelFalaj", fn := fun _ => fun
  | [d1, d2, d3, d4, d5] => { results := [.lit (.bool false)], args := [d1, d2, d3, d4, d5] }
  | _ => none }
def ChannelFalajWrongFalsely : Prop := channelFalajRow.holds Try.pinned (OpenSpec.ofChange channelFalajWrong)

/- THE SECOND FORM. 'bulk': how many values and letters a reading holds, each counted each time it is reached (what is shared counts as often as it is met; a slice's spare places count too). A statement '..UptoSaid' is the law's where the arguments, and the package variables that the reading takes, are together of bulk at most 1048576: NARROWER than '..Said'. Prove '..Said' where nothing that the law and all that it calls make is longer than what came in: it says more and counts as full. Else prove '..UptoSaid'. A law counts once. -/
mutual
def uptoBulk {H : Type} : DataW H → Nat
  | .lit (.string bytes) => bytes.length + 1
  | .lit _ => 1
  | .nil => 1
  | .ptr d => uptoBulk d + 1
  | .slice elems spare => uptoBulkAll elems + uptoBulkAll spare + 1
  | .agg parts => uptoBulkAll parts + 1
  | .iface _ d => uptoBulk d + 1
  | .map entries => uptoBulkEntries entries + 1
  | .held _ => 1
def uptoBulkAll {H : Type} : List (DataW H) → Nat
  | [] => 0
  | d :: r => uptoBulk d + uptoBulkAll r
def uptoBulkEntries {H : Type} : List (Lit × DataW H) → Nat
  | [] => 0
  | x :: r => uptoBulkEntry x + uptoBulkEntries r
def uptoBulkEntry {H : Type} : Lit × DataW H → Nat
  | (.string bytes, d) => bytes.length + uptoBulk d + 1
  | (_, d) => uptoBulk d + 1
 end
def uptoSmall : (H : Type) → List (DataW H) → Bool := fun _ ds => decide (uptoBulkAll ds ≤ 1048576)
def OpenSpec.upto (s : _root_.Go.ChangeSpec) : _root_.Go.OpenSpec := { _root_.Go.OpenSpec.ofChange s with cond := some uptoSmall }

/-- 'aflajlaw05.ChannelPaths', WHERE WHAT IT READS IS OF BULK AT MOST 1048576: true; the input reads as it did. -/
def channelPathsUptoRow : OpenClaim := { program := "ytgklcilpohkpkaa", sum := "26621d8a0f5db2a692354c898c8bd274966add66f02e02cfb39f7cce5f376722", func := "aflaj/aflajlaw05.ChannelPaths", spec := "channelPaths", unfollowed := true, recurses := true, apart := false, narrowed := true }
def ChannelPathsUptoSaid : Prop := channelPathsUptoRow.holds Try.pinned (OpenSpec.upto channelPathsSpec)

/-- 'aflajlaw05.ChannelWaters', WHERE WHAT IT READS IS OF BULK AT MOST 1048576: true; the input reads as it did. -/
def channelWatersUptoRow : OpenClaim := { program := "ytgklcilpohkpkaa", sum := "26621d8a0f5db2a692354c898c8bd274966add66f02e02cfb39f7cce5f376722", func := "aflaj/aflajlaw05.ChannelWaters", spec := "channelWaters", unfollowed := true, recurses := true, apart := false, narrowed := true }
def ChannelWatersUptoSaid : Prop := channelWatersUptoRow.holds Try.pinned (OpenSpec.upto channelWatersSpec)

/-- 'aflajlaw05.ChannelOrders', WHERE WHAT IT READS IS OF BULK AT MOST 1048576: true; the input reads as it did. -/
def channelOrdersUptoRow : OpenClaim := { program := "ytgklcilpohkpkaa", sum := "26621d8a0f5db2a692354c898c8bd274966add66f02e02cfb39f7cce5f376722", func := "aflaj/aflajlaw05.ChannelOrders", spec := "channelOrders", unfollowed := true, recurses := true, apart := false, narrowed := true }
def ChannelOrdersUptoSaid : Prop := channelOrdersUptoRow.holds Try.pinned (OpenSpec.upto channelOrdersSpec)

/-- 'aflajlaw05.ChannelExamples', WHERE WHAT IT READS IS OF BULK AT MOST 1048576: true; the input reads as it did. -/
def channelExamplesUptoRow : OpenClaim := { program := "ytgklcilpohkpkaa", sum := "26621d8a0f5db2a692354c898c8bd274966add66f02e02cfb39f7cce5f376722", func := "aflaj/aflajlaw05.ChannelExamples", spec := "channelExamples", unfollowed := true, recurses := true, apart := false, narrowed := true }
def ChannelExamplesUptoSaid : Prop := channelExamplesUptoRow.holds Try.pinned (OpenSpec.upto channelExamplesSpec)

/-- 'aflajlaw05.ChannelTrue', WHERE WHAT IT READS IS OF BULK AT MOST 1048576: true; the input reads as it did. -/
def channelTrueUptoRow : OpenClaim := { program := "ytgklcilpohkpkaa", sum := "26621d8a0f5db2a692354c898c8bd274966add66f02e02cfb39f7cce5f376722", func := "aflaj/aflajlaw05.ChannelTrue", spec := "channelTrue", unfollowed := true, recurses := true, apart := false, narrowed := true }
def ChannelTrueUptoSaid : Prop := channelTrueUptoRow.holds Try.pinned (OpenSpec.upto channelTrueSpec)

/-- 'aflajlaw05.ChannelDries', WHERE WHAT IT READS IS OF BULK AT MOST 1048576: true; the input reads as it did. -/
def channelDriesUptoRow : OpenClaim := { program := "ytgklcilpohkpkaa", sum := "26621d8a0f5db2a692354c898c8bd274966add66f02e02cfb39f7cce5f376722", func := "aflaj/aflajlaw05.ChannelDries", spec := "channelDries", unfollowed := true, recurses := true, apart := false, narrowed := true }
def ChannelDriesUptoSaid : Prop := channelDriesUptoRow.holds Try.pinned (OpenSpec.upto channelDriesSpec)

/-- 'aflajlaw05.ChannelMoves', WHERE WHAT IT READS IS OF BULK AT MOST 1048576: true; the input reads as it did. -/
def channelMovesUptoRow : OpenClaim := { program := "ytgklcilpohkpkaa", sum := "26621d8a0f5db2a692354c898c8bd274966add66f02e02cfb39f7cce5f376722", func := "aflaj/aflajlaw05.ChannelMoves", spec := "channelMoves", unfollowed := true, recurses := true, apart := false, narrowed := true }
def ChannelMovesUptoSaid : Prop := channelMovesUptoRow.holds Try.pinned (OpenSpec.upto channelMovesSpec)

/-- 'aflajlaw05.ChannelEnough', WHERE WHAT IT READS IS OF BULK AT MOST 1048576: true; the input reads as it did. -/
def channelEnoughUptoRow : OpenClaim := { program := "ytgklcilpohkpkaa", sum := "26621d8a0f5db2a692354c898c8bd274966add66f02e02cfb39f7cce5f376722", func := "aflaj/aflajlaw05.ChannelEnough", spec := "channelEnough", unfollowed := true, recurses := true, apart := false, narrowed := true }
def ChannelEnoughUptoSaid : Prop := channelEnoughUptoRow.holds Try.pinned (OpenSpec.upto channelEnoughSpec)

/-- 'aflajlaw05.ChannelOrder', WHERE WHAT IT READS IS OF BULK AT MOST 1048576: true; the input reads as it did. -/
def channelOrderUptoRow : OpenClaim := { program := "ytgklcilpohkpkaa", sum := "26621d8a0f5db2a692354c898c8bd274966add66f02e02cfb39f7cce5f376722", func := "aflaj/aflajlaw05.ChannelOrder", spec := "channelOrder", unfollowed := true, recurses := true, apart := false, narrowed := true }
def ChannelOrderUptoSaid : Prop := channelOrderUptoRow.holds Try.pinned (OpenSpec.upto channelOrderSpec)

/-- 'aflajlaw05.ChannelTogether', WHERE WHAT IT READS IS OF BULK AT MOST 1048576: true; the input reads as it did. -/
def channelTogetherUptoRow : OpenClaim := { program := "ytgklcilpohkpkaa", sum := "26621d8a0f5db2a692354c898c8bd274966add66f02e02cfb39f7cce5f376722", func := "aflaj/aflajlaw05.ChannelTogether", spec := "channelTogether", unfollowed := true, recurses := true, apart := false, narrowed := true }
def ChannelTogetherUptoSaid : Prop := channelTogetherUptoRow.holds Try.pinned (OpenSpec.upto channelTogetherSpec)

/-- 'aflajlaw05.ChannelMore', WHERE WHAT IT READS IS OF BULK AT MOST 1048576: true; the input reads as it did. -/
def channelMoreUptoRow : OpenClaim := { program := "ytgklcilpohkpkaa", sum := "26621d8a0f5db2a692354c898c8bd274966add66f02e02cfb39f7cce5f376722", func := "aflaj/aflajlaw05.ChannelMore", spec := "channelMore", unfollowed := true, recurses := true, apart := false, narrowed := true }
def ChannelMoreUptoSaid : Prop := channelMoreUptoRow.holds Try.pinned (OpenSpec.upto channelMoreSpec)

/-- 'aflajlaw05.ChannelFalaj', WHERE WHAT IT READS IS OF BULK AT MOST 1048576: true; the input reads as it did. -/
def channelFalajUptoRow : OpenClaim := { program := "ytgklcilpohkpkaa", sum := "26621d8a0f5db2a692354c898c8bd274966add66f02e02cfb39f7cce5f376722", func := "aflaj/aflajlaw05.ChannelFalaj", spec := "channelFalaj", unfollowed := true, recurses := true, apart := false, narrowed := true }
def ChannelFalajUptoSaid : Prop := channelFalajUptoRow.holds Try.pinned (OpenSpec.upto channelFalajSpec)

end Rows
end Go.Proofs.Ytgklcilpohkpkaa
