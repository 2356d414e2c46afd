/-
  No cell of these rows narrows 'for every input' (looked for: loops, veiled, ifaces, maps, wideKeys, modest, calm, conditions, laid).
  DERIVED. THE GIVEN ROWS OF THIS SEAT. 11 by the template 'for every input the law returns true; each argument reads behind the call as it read before'; 0 by the template 'total and deterministic' (their statements: YtmbhnjpaieimbaaTotals.lean).
  GIVEN WITH THE SEED: the statements are not yours to turn. If you find one false, say at which input.
  Laid BY PROGRAM, IN A SANDBOX (cutbox-rows.mjs): the forced cells as the released guide's own fill.sh prints them over the translation 475bdb7eb10bc648… (all of the seat's roots in one cut). By AI agents, Wed Nov 11 2026. No macro, syntax, notation, axiom, sorry.
-/
import Derived.Test.YtmbhnjpaieimbaaChecked
import GoSem.Claim
import GoSem.ClaimJoined
import GoSem.ClaimMapViews
import Derived.JoinedTies
import Derived.KernelRfl
namespace Go.Proofs.Ytmbhnjpaieimbaa
/- THE CELL 'sum', in the pinned program and in every row, IS THE sha256 OF THE DUMP (.gsa) THAT YtmbhnjpaieimbaaProg.lean LOADS. Nothing in Lean hashes anything: it is a label: what it is worth is what the hold of that sum in a sandbox is worth. -/
noncomputable def Try.pinned : Pinned := { name := "ytmbhnjpaieimbaa", sum := "475bdb7eb10bc648cba029be401230b300fc7272188b2f3eb71fb3a4fdbe4cfd", checked := Try.checked }
namespace Rows
def none {H : Type} : Left H := { results := [], args := [] }

/-- 'aflajlaw06.SaltAfters': WHATEVER THE INPUT: true; the input reads as it did. -/
def saltAftersSpec : ChangeSpec := { name := "saltAfters", fn := fun _ => fun
  | [d1, d2, d3] => { results := [.lit (.bool true)], args := [d1, d2, d3] }
  | _ => none }
def saltAftersRow : OpenClaim := { program := "ytmbhnjpaieimbaa", sum := "475bdb7eb10bc648cba029be401230b300fc7272188b2f3eb71fb3a4fdbe4cfd", func := "aflaj/aflajlaw06.SaltAfters", spec := "saltAfters", unfollowed := true, recurses := true, apart := false }
def SaltAftersSaid : Prop := saltAftersRow.holds Try.pinned (OpenSpec.ofChange saltAftersSpec)

/-- ITS FALSE NEIGHBOUR: 'it returns false'. Refute it at one input. -/
def saltAftersWrong : ChangeSpec := { name := "saltAfters", fn := fun _ => fun
  | [d1, d2, d3] => { results := [.lit (.bool false)], args := [d1, d2, d3] }
  | _ => none }
def SaltAftersWrongFalsely : Prop := saltAftersRow.holds Try.pinned (OpenSpec.ofChange saltAftersWrong)

/-- 'aflajlaw06.SaltWants': WHATEVER THE INPUT: true; the input reads as it did. -/
def saltWantsSpec : ChangeSpec := { name := "saltWants", fn := fun _ => fun
  | [d1, d2, d3] => { results := [.lit (.bool true)], args := [d1, d2, d3] }
  | _ => none }
def saltWantsRow : OpenClaim := { program := "ytmbhnjpaieimbaa", sum := "475bdb7eb10bc648cba029be401230b300fc7272188b2f3eb71fb3a4fdbe4cfd", func := "aflaj/aflajlaw06.SaltWants", spec := "saltWants", unfollowed := true, recurses := true, apart := false }
def SaltWantsSaid : Prop := saltWantsRow.holds Try.pinned (OpenSpec.ofChange saltWantsSpec)

/-- ITS FALSE NEIGHBOUR: 'it returns false'. Refute it at one input. -/
def saltWantsWrong : ChangeSpec := { name := "saltWants", fn := fun _ => fun
  | [d1, d2, d3] => { results := [.lit (.bool false)], args := [d1, d2, d3] }
  | _ => none }
def SaltWantsWrongFalsely : Prop := saltWantsRow.holds Try.pinned (OpenSpec.ofChange saltWantsWrong)

/-- 'aflajlaw06.SaltPlans': WHATEVER THE INPUT: true; the input reads as it did. -/
def saltPlansSpec : ChangeSpec := { name := "saltPlans", fn := fun _ => fun
  | [d1, d2] => { results := [.lit (.bool true)], args := [d1, d2] }
  | _ => none }
def saltPlansRow : OpenClaim := { program := "ytmbhnjpaieimbaa", sum := "475bdb7eb10bc648cba029be401230b300fc7272188b2f3eb71fb3a4fdbe4cfd", func := "aflaj/aflajlaw06.SaltPlans", spec := "saltPlans", unfollowed := true, recurses := true, apart := false }
def SaltPlansSaid : Prop := saltPlansRow.holds Try.pinned (OpenSpec.ofChange saltPlansSpec)

/-- ITS FALSE NEIGHBOUR: 'it returns false'. Refute it at one input. -/
def saltPlansWrong : ChangeSpec := { name := "saltPlans", fn := fun _ => fun
  | [d1, d2] => { results := [.lit (.bool false)], args := [d1, d2] }
  | _ => none }
def SaltPlansWrongFalsely : Prop := saltPlansRow.holds Try.pinned (OpenSpec.ofChange saltPlansWrong)

/-- 'aflajlaw06.SaltTrue': WHATEVER THE INPUT: true; the input reads as it did. -/
def saltTrueSpec : ChangeSpec := { name := "saltTrue", fn := fun _ => fun
  | [d1, d2, d3, d4] => { results := [.lit (.bool true)], args := [d1, d2, d3, d4] }
  | _ => none }
def saltTrueRow : OpenClaim := { program := "ytmbhnjpaieimbaa", sum := "475bdb7eb10bc648cba029be401230b300fc7272188b2f3eb71fb3a4fdbe4cfd", func := "aflaj/aflajlaw06.SaltTrue", spec := "saltTrue", unfollowed := true, recurses := true, apart := false }
def SaltTrueSaid : Prop := saltTrueRow.holds Try.pinned (OpenSpec.ofChange saltTrueSpec)

/-- ITS FALSE NEIGHBOUR: 'it returns false'. Refute it at one input. -/
def saltTrueWrong : ChangeSpec := { name := "saltTrue", fn := fun _ => fun
  | [d1, d2, d3, d4] => { results := [.lit (.bool false)], args := [d1, d2, d3, d4] }
  | _ => none }
def SaltTrueWrongFalsely : Prop := saltTrueRow.holds Try.pinned (OpenSpec.ofChange saltTrueWrong)

/-- 'aflajlaw06.SaltNeed': WHATEVER THE INPUT: true; the input reads as it did. -/
def saltNeedSpec : ChangeSpec := { name := "saltNeed", fn := fun _ => fun
  | [d1, d2] => { results := [.lit (.bool true)], args := [d1, d2] }
  | _ => none }
def saltNeedRow : OpenClaim := { program := "ytmbhnjpaieimbaa", sum := "475bdb7eb10bc648cba029be401230b300fc7272188b2f3eb71fb3a4fdbe4cfd", func := "aflaj/aflajlaw06.SaltNeed", spec := "saltNeed", unfollowed := true, recurses := true, apart := false }
def SaltNeedSaid : Prop := saltNeedRow.holds Try.pinned (OpenSpec.ofChange saltNeedSpec)

/-- ITS FALSE NEIGHBOUR: 'it returns false'. Refute it at one input. -/
def saltNeedWrong : ChangeSpec := { name := "saltNeed", fn := fun _ => fun
  | [d1, d2] => { results := [.lit (.bool false)], args := [d1, d2] }
  | _ => none }
def SaltNeedWrongFalsely : Prop := saltNeedRow.holds Try.pinned (OpenSpec.ofChange saltNeedWrong)

/-- 'aflajlaw06.SaltMore': WHATEVER THE INPUT: true; the input reads as it did. -/
def saltMoreSpec : ChangeSpec := { name := "saltMore", fn := fun _ => fun
  | [d1, d2, d3] => { results := [.lit (.bool true)], args := [d1, d2, d3] }
  | _ => none }
def saltMoreRow : OpenClaim := { program := "ytmbhnjpaieimbaa", sum := "475bdb7eb10bc648cba029be401230b300fc7272188b2f3eb71fb3a4fdbe4cfd", func := "aflaj/aflajlaw06.SaltMore", spec := "saltMore", unfollowed := true, recurses := true, apart := false }
def SaltMoreSaid : Prop := saltMoreRow.holds Try.pinned (OpenSpec.ofChange saltMoreSpec)

/-- ITS FALSE NEIGHBOUR: 'it returns false'. Refute it at one input. -/
def saltMoreWrong : ChangeSpec := { name := "saltMore", fn := fun _ => fun
  | [d1, d2, d3] => { results := [.lit (.bool false)], args := [d1, d2, d3] }
  | _ => none }
def SaltMoreWrongFalsely : Prop := saltMoreRow.holds Try.pinned (OpenSpec.ofChange saltMoreWrong)

/-- 'aflajlaw06.SaltLack': WHATEVER THE INPUT: true; the input reads as it did. -/
def saltLackSpec : ChangeSpec := { name := "saltLack", fn := fun _ => fun
  | [d1, d2, d3] => { results := [.lit (.bool true)], args := [d1, d2, d3] }
  | _ => none }
def saltLackRow : OpenClaim := { program := "ytmbhnjpaieimbaa", sum := "475bdb7eb10bc648cba029be401230b300fc7272188b2f3eb71fb3a4fdbe4cfd", func := "aflaj/aflajlaw06.SaltLack", spec := "saltLack", unfollowed := true, recurses := true, apart := false }
def SaltLackSaid : Prop := saltLackRow.holds Try.pinned (OpenSpec.ofChange saltLackSpec)

/-- ITS FALSE NEIGHBOUR: 'it returns false'. Refute it at one input. -/
def saltLackWrong : ChangeSpec := { name := "saltLack", fn := fun _ => fun
  | [d1, d2, d3] => { results := [.lit (.bool false)], args := [d1, d2, d3] }
  | _ => none }
def SaltLackWrongFalsely : Prop := saltLackRow.holds Try.pinned (OpenSpec.ofChange saltLackWrong)

/-- 'aflajlaw06.SaltCheap': WHATEVER THE INPUT: true; the input reads as it did. -/
def saltCheapSpec : ChangeSpec := { name := "saltCheap", fn := fun _ => fun
  | [d1, d2, d3] => { results := [.lit (.bool true)], args := [d1, d2, d3] }
  | _ => none }
def saltCheapRow : OpenClaim := { program := "ytmbhnjpaieimbaa", sum := "475bdb7eb10bc648cba029be401230b300fc7272188b2f3eb71fb3a4fdbe4cfd", func := "aflaj/aflajlaw06.SaltCheap", spec := "saltCheap", unfollowed := true, recurses := true, apart := false }
def SaltCheapSaid : Prop := saltCheapRow.holds Try.pinned (OpenSpec.ofChange saltCheapSpec)

/-- ITS FALSE NEIGHBOUR: 'it returns false'. Refute it at one input. -/
def saltCheapWrong : ChangeSpec := { name := "saltCheap", fn := fun _ => fun
  | [d1, d2, d3] => { results := [.lit (.bool false)], args := [d1, d2, d3] }
  | _ => none }
def SaltCheapWrongFalsely : Prop := saltCheapRow.holds Try.pinned (OpenSpec.ofChange saltCheapWrong)

/-- 'aflajlaw06.SaltRents': WHATEVER THE INPUT: true; the input reads as it did. -/
def saltRentsSpec : ChangeSpec := { name := "saltRents", fn := fun _ => fun
  | [d1, d2, d3, d4] => { results := [.lit (.bool true)], args := [d1, d2, d3, d4] }
  | _ => none }
def saltRentsRow : OpenClaim := { program := "ytmbhnjpaieimbaa", sum := "475bdb7eb10bc648cba029be401230b300fc7272188b2f3eb71fb3a4fdbe4cfd", func := "aflaj/aflajlaw06.SaltRents", spec := "saltRents", unfollowed := true, recurses := true, apart := false }
def SaltRentsSaid : Prop := saltRentsRow.holds Try.pinned (OpenSpec.ofChange saltRentsSpec)

/-- ITS FALSE NEIGHBOUR: 'it returns false'. Refute it at one input. -/
def saltRentsWrong : ChangeSpec := { name := "saltRents", fn := fun _ => fun
  | [d1, d2, d3, d4] => { results := [.lit (.bool false)], args := [d1, d2, d3, d4] }
  | _ => none }
def SaltRentsWrongFalsely : Prop := saltRentsRow.holds Try.pinned (OpenSpec.ofChange saltRentsWrong)

/-- 'aflajlaw06.SaltExamples': WHATEVER THE INPUT: true; the input reads as it did. -/
def saltExamplesSpec : ChangeSpec := { name := "saltExamples", fn := fun _ => fun
  | [] => { results := [.lit (.bool true)], args := [] }
  | _ => none }
def saltExamplesRow : OpenClaim := { program := "ytmbhnjpaieimbaa", sum := "475bdb7eb10bc648cba029be401230b300fc7272188b2f3eb71fb3a4fdbe4cfd", func := "aflaj/aflajlaw06.SaltExamples", spec := "saltExamples", unfollowed := true, recurses := true, apart := false }
def SaltExamplesSaid : Prop := saltExamplesRow.holds Try.pinned (OpenSpec.ofChange saltExamplesSpec)

/-- ITS FALSE NEIGHBOUR: 'it returns false'. Refute it at one input. -/
def saltExamplesWrong : ChangeSpec := { name := "saltExamples", fn := fun _ => fun
  | [] => { results := [.lit (.bool false)], args := [] }
  | _ => none }
def SaltExamplesWrongFalsely : Prop := saltExamplesRow.holds Try.pinned (OpenSpec.ofChange saltExamplesWrong)

/-- 'aflajlaw06.SaltFed': WHATEVER THE INPUT: true; the input reads as it did. -/
def saltFedSpec : ChangeSpec := { name := "saltFed", fn := fun _ => fun
  | [d1, d2, d3, d4] => { results := [.lit (.bool true)], args := [d1, d2, d3, d4] }
  | _ => none }
def saltFedRow : OpenClaim := { program := "ytmbhnjpaieimbaa", sum := "475bdb7eb10bc648cba029be401230b300fc7272188b2f3eb71fb3a4fdbe4cfd", func := "aflaj/aflajlaw06.SaltFed", spec := "saltFed", unfollowed := true, recurses := true, apart := false }
def SaltFedSaid : Prop := saltFedRow.holds Try.pinned (OpenSpec.ofChange saltFedSpec)

/-- ITS FALSE NEIGHBOUR: 'it returns false'. Refute it at one input. -/
def saltFedWrong : ChangeSpec := { name := "saltFed", fn := fun _ => fun
  | [d1, d2, d3, d4] => { results := [.lit (.bool false)], args := [d1, d2, d3, d4] }
  | _ => none }
def SaltFedWrongFalsely : Prop := saltFedRow.holds Try.pinned (OpenSpec.ofChange saltFedWrong)

/- THE SECOND FORM. 'bulk': how many values and letters a reading holds, each counted each time it is reached (what is shared counts as often as it is met; a slice's spare places count too). A statement '..UptoSaid' is the law's where the arguments, and the package variables that the reading takes, are together of bulk at most 1048576: NARROWER than '..Said'. Prove '..Said' where nothing that the law and all that it calls make is longer than what came in: it says more and counts as full. Else prove '..UptoSaid'. A law counts once. -/
mutual
def uptoBulk {H : Type} : DataW H → Nat
  | .lit (.string bytes) => bytes.length + 1
  | .lit _ => 1
  | .nil => 1
  | .ptr d => uptoBulk d + 1
  | .slice elems spare => uptoBulkAll elems + uptoBulkAll spare + 1
  | .agg parts => uptoBulkAll parts + 1
  | .iface _ d => uptoBulk d + 1
  | .map entries => uptoBulkEntries entries + 1
  | .held _ => 1
def uptoBulkAll {H : Type} : List (DataW H) → Nat
  | [] => 0
  | d :: r => uptoBulk d + uptoBulkAll r
def uptoBulkEntries {H : Type} : List (Lit × DataW H) → Nat
  | [] => 0
  | x :: r => uptoBulkEntry x + uptoBulkEntries r
def uptoBulkEntry {H : Type} : Lit × DataW H → Nat
  | (.string bytes, d) => bytes.length + uptoBulk d + 1
  | (_, d) => uptoBulk d + 1
 end
def uptoSmall : (H : Type) → List (DataW H) → Bool := fun _ ds => decide (uptoBulkAll ds ≤ 1048576)
def OpenSpec.upto (s : _root_.Go.ChangeSpec) : _root_.Go.OpenSpec := { _root_.Go.OpenSpec.ofChange s with cond := some uptoSmall }

/-- 'aflajlaw06.SaltAfters', WHERE WHAT IT READS IS OF BULK AT MOST 1048576: true; the input reads as it did. -/
def saltAftersUptoRow : OpenClaim := { program := "ytmbhnjpaieimbaa", sum := "475bdb7eb10bc648cba029be401230b300fc7272188b2f3eb71fb3a4fdbe4cfd", func := "aflaj/aflajlaw06.SaltAfters", spec := "saltAfters", unfollowed := true, recurses := true, apart := false, narrowed := true }
def SaltAftersUptoSaid : Prop := saltAftersUptoRow.holds Try.pinned (OpenSpec.upto saltAftersSpec)

/-- 'aflajlaw06.SaltWants', WHERE WHAT IT READS IS OF BULK AT MOST 1048576: true; the input reads as it did. -/
def saltWantsUptoRow : OpenClaim := { program := "ytmbhnjpaieimbaa", sum := "475bdb7eb10bc648cba029be401230b300fc7272188b2f3eb71fb3a4fdbe4cfd", func := "aflaj/aflajlaw06.SaltWants", spec := "saltWants", unfollowed := true, recurses := true, apart := false, narrowed := true }
def SaltWantsUptoSaid : Prop := saltWantsUptoRow.holds Try.pinned (OpenSpec.upto saltWantsSpec)

/-- 'aflajlaw06.SaltPlans', WHERE WHAT IT READS IS OF BULK AT MOST 1048576: true; the input reads as it did. -/
def saltPlansUptoRow : OpenClaim := { program := "ytmbhnjpaieimbaa", sum := "475bdb7eb10bc648cba029be401230b300fc7272188b2f3eb71fb3a4fdbe4cfd", func := "aflaj/aflajlaw06.SaltPlans", spec := "saltPlans", unfollowed := true, recurses := true, apart := false, narrowed := true }
def SaltPlansUptoSaid : Prop := saltPlansUptoRow.holds Try.pinned (OpenSpec.upto saltPlansSpec)

/-- 'aflajlaw06.SaltTrue', WHERE WHAT IT READS IS OF BULK AT MOST 1048576: true; the input reads as it did. -/
def saltTrueUptoRow : OpenClaim := { program := "ytmbhnjpaieimbaa", sum := "475bdb7eb10bc648cba029be401230b300fc7272188b2f3eb71fb3a4fdbe4cfd", func := "aflaj/aflajlaw06.SaltTrue", spec := "saltTrue", unfollowed := true, recurses := true, apart := false, narrowed := true }
def SaltTrueUptoSaid : Prop := saltTrueUptoRow.holds Try.pinned (OpenSpec.upto saltTrueSpec)

/-- 'aflajlaw06.SaltNeed', WHERE WHAT IT READS IS OF BULK AT MOST 1048576: true; the input reads as it did. -/
def saltNeedUptoRow : OpenClaim := { program := "ytmbhnjpaieimbaa", sum := "475bdb7eb10bc648cba029be401230b300fc7272188b2f3eb71fb3a4fdbe4cfd", func := "aflaj/aflajlaw06.SaltNeed", spec := "saltNeed", unfollowed := true, recurses := true, apart := false, narrowed := true }
def SaltNeedUptoSaid : Prop := saltNeedUptoRow.holds Try.pinned (OpenSpec.upto saltNeedSpec)

/-- 'aflajlaw06.SaltMore', WHERE WHAT IT READS IS OF BULK AT MOST 1048576: true; the input reads as it did. -/
def saltMoreUptoRow : OpenClaim := { program := "ytmbhnjpaieimbaa", sum := "475bdb7eb10bc648cba029be401230b300fc7272188b2f3eb71fb3a4fdbe4cfd", func := "aflaj/aflajlaw06.SaltMore", spec := "saltMore", unfollowed := true, recurses := true, apart := false, narrowed := true }
def SaltMoreUptoSaid : Prop := saltMoreUptoRow.holds Try.pinned (OpenSpec.upto saltMoreSpec)

/-- 'aflajlaw06.SaltLack', WHERE WHAT IT READS IS OF BULK AT MOST 1048576: true; the input reads as it did. -/
def saltLackUptoRow : OpenClaim := { program := "ytmbhnjpaieimbaa", sum := "475bdb7eb10bc648cba029be401230b300fc7272188b2f3eb71fb3a4fdbe4cfd", func := "aflaj/aflajlaw06.SaltLack", spec := "saltLack", unfollowed := true, recurses := true, apart := false, narrowed := true }
def SaltLackUptoSaid : Prop := saltLackUptoRow.holds Try.pinned (OpenSpec.upto saltLackSpec)

/-- 'aflajlaw06.SaltCheap', WHERE WHAT IT READS IS OF BULK AT MOST 1048576: true; the input reads as it did. -/
def saltCheapUptoRow : OpenClaim := { program := "ytmbhnjpaieimbaa", sum := "475bdb7eb10bc648cba029be401230b300fc7272188b2f3eb71fb3a4fdbe4cfd", func := "aflaj/aflajlaw06.SaltCheap", spec := "saltCheap", unfollowed := true, recurses := true, apart := false, narrowed := true }
def SaltCheapUptoSaid : Prop := saltCheapUptoRow.holds Try.pinned (OpenSpec.upto saltCheapSpec)

/-- 'aflajlaw06.SaltRents', WHERE WHAT IT READS IS OF BULK AT MOST 1048576: true; the input reads as it did. -/
def saltRentsUptoRow : OpenClaim := { program := "ytmbhnjpaieimbaa", sum := "475bdb7eb10bc648cba029be401230b300fc7272188b2f3eb71fb3a4fdbe4cfd", func := "aflaj/aflajlaw06.SaltRents", spec := "saltRents", unfollowed := true, recurses := true, apart := false, narrowed := true }
def SaltRentsUptoSaid : Prop := saltRentsUptoRow.holds Try.pinned (OpenSpec.upto saltRentsSpec)

/-- 'aflajlaw06.SaltExamples', WHERE WHAT IT READS IS OF BULK AT MOST 1048576: true; the input reads as it did. -/
def saltExamplesUptoRow : OpenClaim := { program := "ytmbhnjpaieimbaa", sum := "475bdb7eb10bc648cba029be401230b300fc7272188b2f3eb71fb3a4fdbe4cfd", func := "aflaj/aflajlaw06.SaltExamples", spec := "saltExamples", unfollowed := true, recurses := true, apart := false, narrowed := true }
def SaltExamplesUptoSaid : Prop := saltExamplesUptoRow.holds Try.pinned (OpenSpec.upto saltExamplesSpec)

/-- 'aflajlaw06.SaltFed', WHERE WHAT IT READS IS OF BULK AT MOST 1048576: true; the input reads as it did. -/
def saltFedUptoRow : OpenClaim := { program := "ytmbhnjpaieimbaa", sum := "475bdb7eb10bc648cba029be401230b300fc7272188b2f3eb71fb3a4fdbe4cfd", func := "aflaj/aflajlaw06.SaltFed", spec := "saltFed", unfollowed := true, recurses := true, apart := false, narrowed := true }
def SaltFedUptoSaid : Prop := saltFedUptoRow.holds Try.pinned (OpenSpec.upto saltFedSpec)

end Rows
end Go.Proofs.Ytmbhnjpaieimbaa
