/-
  DERIVED. GIVEN WITH THE SEED: THE CARDS: each row of YtgfghffihjfbpaaGreatDoorRows.lean that lists a variable, with what it lists TIED to the program's text (the seventh form; the later family's looks); each row that meets fmt, with fmt's text TOLD by the authors' own Lean function (tested against real Go, not proved from fmt's source: count such statements apart). THE CARD IS WHAT COUNTS. Prove the row's statement (the work); the ties are given (YtgfghffihjfbpaaGreatDoorTie.lean); close each card by the builder's one call (the guide's Derived/Test/ToyasCard.lean, 'card_holds'). Laid BY PROGRAM, IN A SANDBOX (cutbox-door.mjs). By AI agents, Wed Nov 11 2026. No macro, syntax, notation, axiom, sorry.
-/
import Derived.Test.YtgfghffihjfbpaaGreatDoorRows
import GoSem.ClaimSeven
namespace Go.Proofs.YtgfghffihjfbpaaGreatDoor
namespace Rows

/-- THE TIED CARD OF 'aflajlaw11.AgentWrites'. -/
def agentWritesCard : Claim7 := { stood := { row := agentWritesRow, standIns := [], harness := (true, "42333023fca36e2b5747c47a6d7cf95c34459bffe59f7fc436539bd0736a324b"), looks := true }, kinds := [], alts := [], laidByText := true, laidKinds := [.data, .data, .data], laidTests := true, laidLooks := .later }
def AgentWritesCardSaid : Prop := Claim7.holds Tryz.pinned (.plain (OpenSpec.ofChange agentWritesSpec)) agentWritesCard

/-- THE TIED CARD OF 'aflajlaw11.AgentReads'. -/
def agentReadsCard : Claim7 := { stood := { row := agentReadsRow, standIns := [], harness := (true, "42333023fca36e2b5747c47a6d7cf95c34459bffe59f7fc436539bd0736a324b"), looks := true }, kinds := [], alts := [], laidByText := true, laidKinds := [.data, .data, .data, .data, .sentinel, .sentinel, .pinned], laidTests := true, laidLooks := .later }
def AgentReadsCardSaid : Prop := Claim7.holds Tryz.pinned (.plain (OpenSpec.ofChange agentReadsSpec)) agentReadsCard

/-- THE SECOND FORM's CARD OF 'aflajlaw11.AgentWrites'. -/
def agentWritesUptoCard : Claim7 := { stood := { row := agentWritesUptoRow, standIns := [], harness := (true, "42333023fca36e2b5747c47a6d7cf95c34459bffe59f7fc436539bd0736a324b"), looks := true }, kinds := [], alts := [], laidByText := true, laidKinds := [.data, .data, .data], laidTests := true, laidLooks := .later }
def AgentWritesUptoCardSaid : Prop := Claim7.holds Tryz.pinned (.plain (OpenSpec.upto agentWritesSpec)) agentWritesUptoCard

/-- THE SECOND FORM's CARD OF 'aflajlaw11.AgentReads'. -/
def agentReadsUptoCard : Claim7 := { stood := { row := agentReadsUptoRow, standIns := [], harness := (true, "42333023fca36e2b5747c47a6d7cf95c34459bffe59f7fc436539bd0736a324b"), looks := true }, kinds := [], alts := [], laidByText := true, laidKinds := [.data, .data, .data, .data, .sentinel, .sentinel, .pinned], laidTests := true, laidLooks := .later }
def AgentReadsUptoCardSaid : Prop := Claim7.holds Tryz.pinned (.plain (OpenSpec.upto agentReadsSpec)) agentReadsUptoCard
end Rows
end Go.Proofs.YtgfghffihjfbpaaGreatDoor
