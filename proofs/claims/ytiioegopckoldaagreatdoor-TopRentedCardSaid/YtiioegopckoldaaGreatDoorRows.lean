/-
  NARROWER THAN 'FOR EVERY INPUT', by the rows' own cells (each row's printed sentence says how): TopFed: laid · TopRented: laid · TopAwarded: laid.
  DERIVED. THE GIVEN ROWS OF THIS SEAT. 3 by the template 'for every input the law returns true; each argument reads behind the call as it read before'; 0 by the template 'total and deterministic' (their statements: YtiioegopckoldaaGreatDoorTotals.lean).
  GIVEN WITH THE SEED: the statements are not yours to turn. If you find one false, say at which input.
  Laid BY PROGRAM, IN A SANDBOX (cutbox-rows.mjs): the forced cells as the released guide's own fill.sh prints them over the translation 64038c26f8f3a8c7… (all of the seat's roots in one cut). By AI agents, Wed Nov 11 2026. No macro, syntax, notation, axiom, sorry.
-/
import Derived.Test.YtiioegopckoldaaGreatDoorChecked
import GoSem.Claim
import GoSem.ClaimJoined
import GoSem.ClaimMapViews
import Derived.JoinedTies
import Derived.KernelRfl
namespace Go.Proofs.YtiioegopckoldaaGreatDoor
/- THE CELL 'sum', in the pinned program and in every row, IS THE sha256 OF THE DUMP (.gsa) THAT YtiioegopckoldaaGreatDoorProg.lean LOADS. Nothing in Lean hashes anything: it is a label: what it is worth is what the hold of that sum in a sandbox is worth. -/
noncomputable def Tryz.pinned : Pinned := { name := "ytiioegopckoldaagreatdoor", sum := "64038c26f8f3a8c76203626e5f1ff32ed3c03633f60ff5a19400b166980a7e0e", checked := Tryz.checked }
namespace Rows
def none {H : Type} : Left H := { results := [], args := [] }

/- WHAT THE LISTED PACKAGE-LEVEL VARIABLES READ AS WHEN THE CALL BEGINS. Each datum BY PROGRAM (the guide's laid-datum.mjs) off the statement by which the dump's own 'gosem.cut.vars' lays the variable. In a bare row this is a premise. The card (YtiioegopckoldaaGreatDoorCards.lean) ties it to the program's text. -/
def laid_aflaj_hour_never {H : Type} : DataW H := .agg [.lit (.int .i64 1), .lit (.int .i64 0)]

/-- 'aflajtop.TopFed': WHATEVER THE INPUT: true; the input reads as it did. -/
def topFedSpec : ChangeSpec := { name := "topFed", fn := fun _ => fun
  | [d1, d2, d3, d4, d5, d6] => { results := [.lit (.bool true)], args := [d1, d2, d3, d4, d5, d6] }
  | _ => none }
def topFedRow : OpenClaim := { program := "ytiioegopckoldaagreatdoor", sum := "64038c26f8f3a8c76203626e5f1ff32ed3c03633f60ff5a19400b166980a7e0e", func := "aflaj/aflajtop.TopFed", spec := "topFed", inPlace := ["slices.overlaps[aflaj/deed.piece]"], unfollowed := true, recurses := true, named := ["aflaj/hour.never"], apart := false, laid := [("aflaj/hour.never", laid_aflaj_hour_never)] }
def TopFedSaid : Prop := topFedRow.holds Tryz.pinned (OpenSpec.ofChange topFedSpec)

/-- ITS FALSE NEIGHBOUR: 'it returns false'. Refute it at one input. -/
def topFedWrong : ChangeSpec := { name := "topFed", fn := fun _ => fun
  | [d1, d2, d3, d4, d5, d6] => { results := [.lit (.bool false)], args := [d1, d2, d3, d4, d5, d6] }
  | _ => none }
def TopFedWrongFalsely : Prop := topFedRow.holds Tryz.pinned (OpenSpec.ofChange topFedWrong)

/-- 'aflajtop.TopRented': WHATEVER THE INPUT: true; the input reads as it did. -/
def topRentedSpec : ChangeSpec := { name := "topRented", fn := fun _ => fun
  | [d1, d2, d3] => { results := [.lit (.bool true)], args := [d1, d2, d3] }
  | _ => none }
def topRentedRow : OpenClaim := { program := "ytiioegopckoldaagreatdoor", sum := "64038c26f8f3a8c76203626e5f1ff32ed3c03633f60ff5a19400b166980a7e0e", func := "aflaj/aflajtop.TopRented", spec := "topRented", inPlace := ["slices.overlaps[aflaj/deed.piece]"], unfollowed := true, recurses := true, named := ["aflaj/hour.never"], apart := false, laid := [("aflaj/hour.never", laid_aflaj_hour_never)] }
def TopRentedSaid : Prop := topRentedRow.holds Tryz.pinned (OpenSpec.ofChange topRentedSpec)

/-- ITS FALSE NEIGHBOUR: 'it returns false'. Refute it at one input. -/
def topRentedWrong : ChangeSpec := { name := "topRented", fn := fun _ => fun
  | [d1, d2, d3] => { results := [.lit (.bool false)], args := [d1, d2, d3] }
  | _ => none }
def TopRentedWrongFalsely : Prop := topRentedRow.holds Tryz.pinned (OpenSpec.ofChange topRentedWrong)

/-- 'aflajtop.TopAwarded': WHATEVER THE INPUT: true; the input reads as it did. -/
def topAwardedSpec : ChangeSpec := { name := "topAwarded", fn := fun _ => fun
  | [d1, d2, d3, d4, d5] => { results := [.lit (.bool true)], args := [d1, d2, d3, d4, d5] }
  | _ => none }
def topAwardedRow : OpenClaim := { program := "ytiioegopckoldaagreatdoor", sum := "64038c26f8f3a8c76203626e5f1ff32ed3c03633f60ff5a19400b166980a7e0e", func := "aflaj/aflajtop.TopAwarded", spec := "topAwarded", inPlace := ["slices.overlaps[aflaj/deed.piece]"], unfollowed := true, recurses := true, named := ["aflaj/hour.never"], apart := false, laid := [("aflaj/hour.never", laid_aflaj_hour_never)] }
def TopAwardedSaid : Prop := topAwardedRow.holds Tryz.pinned (OpenSpec.ofChange topAwardedSpec)

/-- ITS FALSE NEIGHBOUR: 'it returns false'. Refute it at one input. -/
def topAwardedWrong : ChangeSpec := { name := "topAwarded", fn := fun _ => fun
  | [d1, d2, d3, d4, d5] => { results := [.lit (.bool false)], args := [d1, d2, d3, d4, d5] }
  | _ => none }
def TopAwardedWrongFalsely : Prop := topAwardedRow.holds Tryz.pinned (OpenSpec.ofChange topAwardedWrong)

/- THE SECOND FORM. 'bulk': how many values and letters a reading holds, each counted each time it is reached (what is shared counts as often as it is met; a slice's spare places count too). A statement '..UptoSaid' is the law's where the arguments, and the package variables that the reading takes, are together of bulk at most 1048576: NARROWER than '..Said'. Prove '..Said' where nothing that the law and all that it calls make is longer than what came in: it says more and counts as full. Else prove '..UptoSaid'. A law counts once. -/
mutual
def uptoBulk {H : Type} : DataW H → Nat
  | .lit (.string bytes) => bytes.length + 1
  | .lit _ => 1
  | .nil => 1
  | .ptr d => uptoBulk d + 1
  | .slice elems spare => uptoBulkAll elems + uptoBulkAll spare + 1
  | .agg parts => uptoBulkAll parts + 1
  | .iface _ d => uptoBulk d + 1
  | .map entries => uptoBulkEntries entries + 1
  | .held _ => 1
def uptoBulkAll {H : Type} : List (DataW H) → Nat
  | [] => 0
  | d :: r => uptoBulk d + uptoBulkAll r
def uptoBulkEntries {H : Type} : List (Lit × DataW H) → Nat
  | [] => 0
  | x :: r => uptoBulkEntry x + uptoBulkEntries r
def uptoBulkEntry {H : Type} : Lit × DataW H → Nat
  | (.string bytes, d) => bytes.length + uptoBulk d + 1
  | (_, d) => uptoBulk d + 1
 end
def uptoSmall : (H : Type) → List (DataW H) → Bool := fun _ ds => decide (uptoBulkAll ds ≤ 1048576)
def OpenSpec.upto (s : _root_.Go.ChangeSpec) : _root_.Go.OpenSpec := { _root_.Go.OpenSpec.ofChange s with cond := some uptoSmall }

/-- 'aflajtop.TopFed', WHERE WHAT IT READS IS OF BULK AT MOST 1048576: true; the input reads as it did. -/
def topFedUptoRow : OpenClaim := { program := "ytiioegopckoldaagreatdoor", sum := "64038c26f8f3a8c76203626e5f1ff32ed3c03633f60ff5a19400b166980a7e0e", func := "aflaj/aflajtop.TopFed", spec := "topFed", inPlace := ["slices.overlaps[aflaj/deed.piece]"], unfollowed := true, recurses := true, named := ["aflaj/hour.never"], apart := false, laid := [("aflaj/hour.never", laid_aflaj_hour_never)], narrowed := true }
def TopFedUptoSaid : Prop := topFedUptoRow.holds Tryz.pinned (OpenSpec.upto topFedSpec)

/-- 'aflajtop.TopRented', WHERE WHAT IT READS IS OF BULK AT MOST 1048576: true; the input reads as it did. -/
def topRentedUptoRow : OpenClaim := { program := "ytiioegopckoldaagreatdoor", sum := "64038c26f8f3a8c76203626e5f1ff32ed3c03633f60ff5a19400b166980a7e0e", func := "aflaj/aflajtop.TopRented", spec := "topRented", inPlace := ["slices.overlaps[aflaj/deed.piece]"], unfollowed := true, recurses := true, named := ["aflaj/hour.never"], apart := false, laid := [("aflaj/hour.never", laid_aflaj_hour_never)], narrowed := true }
def TopRentedUptoSaid : Prop := topRentedUptoRow.holds Tryz.pinned (OpenSpec.upto topRentedSpec)

/-- 'aflajtop.TopAwarded', WHERE WHAT IT READS IS OF BULK AT MOST 1048576: true; the input reads as it did. -/
def topAwardedUptoRow : OpenClaim := { program := "ytiioegopckoldaagreatdoor", sum := "64038c26f8f3a8c76203626e5f1ff32ed3c03633f60ff5a19400b166980a7e0e", func := "aflaj/aflajtop.TopAwarded", spec := "topAwarded", inPlace := ["slices.overlaps[aflaj/deed.piece]"], unfollowed := true, recurses := true, named := ["aflaj/hour.never"], apart := false, laid := [("aflaj/hour.never", laid_aflaj_hour_never)], narrowed := true }
def TopAwardedUptoSaid : Prop := topAwardedUptoRow.holds Tryz.pinned (OpenSpec.upto topAwardedSpec)

end Rows
end Go.Proofs.YtiioegopckoldaaGreatDoor
