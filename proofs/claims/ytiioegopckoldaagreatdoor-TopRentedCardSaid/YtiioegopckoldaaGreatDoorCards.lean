/-
  DERIVED. GIVEN WITH THE SEED: THE CARDS: each row of YtiioegopckoldaaGreatDoorRows.lean that lists a variable, with what it lists TIED to the program's text (the seventh form; the later family's looks); each row that meets fmt, with fmt's text TOLD by the authors' own Lean function (tested against real Go, not proved from fmt's source: count such statements apart). THE CARD IS WHAT COUNTS. Prove the row's statement (the work); the ties are given (YtiioegopckoldaaGreatDoorTie.lean); close each card by the builder's one call (the guide's Derived/Test/ToyasCard.lean, 'card_holds'). Laid BY PROGRAM, IN A SANDBOX (cutbox-door.mjs). By AI agents, Wed Nov 11 2026. No macro, syntax, notation, axiom, sorry.
-/
import Derived.Test.YtiioegopckoldaaGreatDoorRows
import GoSem.ClaimSeven
namespace Go.Proofs.YtiioegopckoldaaGreatDoor
namespace Rows

/-- THE TIED CARD OF 'aflajtop.TopFed'. -/
def topFedCard : Claim7 := { stood := { row := topFedRow, standIns := [], harness := (true, "5e502a6c3fcf0c6f3724b64004bd3e95add114ddef492e4206a6cc5584cc7c6d"), looks := true }, kinds := [], alts := [], laidByText := true, laidKinds := [.data], laidTests := true, laidLooks := .later }
def TopFedCardSaid : Prop := Claim7.holds Tryz.pinned (.plain (OpenSpec.ofChange topFedSpec)) topFedCard

/-- THE TIED CARD OF 'aflajtop.TopRented'. -/
def topRentedCard : Claim7 := { stood := { row := topRentedRow, standIns := [], harness := (true, "5e502a6c3fcf0c6f3724b64004bd3e95add114ddef492e4206a6cc5584cc7c6d"), looks := true }, kinds := [], alts := [], laidByText := true, laidKinds := [.data], laidTests := true, laidLooks := .later }
def TopRentedCardSaid : Prop := Claim7.holds Tryz.pinned (.plain (OpenSpec.ofChange topRentedSpec)) topRentedCard

/-- THE TIED CARD OF 'aflajtop.TopAwarded'. -/
def topAwardedCard : Claim7 := { stood := { row := topAwardedRow, standIns := [], harness := (true, "5e502a6c3fcf0c6f3724b64004bd3e95add114ddef492e4206a6cc5584cc7c6d"), looks := true }, kinds := [], alts := [], laidByText := true, laidKinds := [.data], laidTests := true, laidLooks := .later }
def TopAwardedCardSaid : Prop := Claim7.holds Tryz.pinned (.plain (OpenSpec.ofChange topAwardedSpec)) topAwardedCard

/-- THE SECOND FORM's CARD OF 'aflajtop.TopFed'. -/
def topFedUptoCard : Claim7 := { stood := { row := topFedUptoRow, standIns := [], harness := (true, "5e502a6c3fcf0c6f3724b64004bd3e95add114ddef492e4206a6cc5584cc7c6d"), looks := true }, kinds := [], alts := [], laidByText := true, laidKinds := [.data], laidTests := true, laidLooks := .later }
def TopFedUptoCardSaid : Prop := Claim7.holds Tryz.pinned (.plain (OpenSpec.upto topFedSpec)) topFedUptoCard

/-- THE SECOND FORM's CARD OF 'aflajtop.TopRented'. -/
def topRentedUptoCard : Claim7 := { stood := { row := topRentedUptoRow, standIns := [], harness := (true, "5e502a6c3fcf0c6f3724b64004bd3e95add114ddef492e4206a6cc5584cc7c6d"), looks := true }, kinds := [], alts := [], laidByText := true, laidKinds := [.data], laidTests := true, laidLooks := .later }
def TopRentedUptoCardSaid : Prop := Claim7.holds Tryz.pinned (.plain (OpenSpec.upto topRentedSpec)) topRentedUptoCard

/-- THE SECOND FORM's CARD OF 'aflajtop.TopAwarded'. -/
def topAwardedUptoCard : Claim7 := { stood := { row := topAwardedUptoRow, standIns := [], harness := (true, "5e502a6c3fcf0c6f3724b64004bd3e95add114ddef492e4206a6cc5584cc7c6d"), looks := true }, kinds := [], alts := [], laidByText := true, laidKinds := [.data], laidTests := true, laidLooks := .later }
def TopAwardedUptoCardSaid : Prop := Claim7.holds Tryz.pinned (.plain (OpenSpec.upto topAwardedSpec)) topAwardedUptoCard
end Rows
end Go.Proofs.YtiioegopckoldaaGreatDoor
