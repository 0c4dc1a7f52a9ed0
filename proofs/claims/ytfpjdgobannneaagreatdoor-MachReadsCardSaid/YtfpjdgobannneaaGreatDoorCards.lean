/-
  DERIVED. GIVEN WITH THE SEED: THE CARDS: each row of YtfpjdgobannneaaGreatDoorRows.lean that lists a variable, with what it lists TIED to the program's text (the seventh form; the later family's looks); each row that meets fmt, with fmt's text TOLD by the authors' own Lean function (tested against real Go, not proved from fmt's source: count such statements apart). THE CARD IS WHAT COUNTS. Prove the row's statement (the work); the ties are given (YtfpjdgobannneaaGreatDoorTie.lean); close each card by the builder's one call (the guide's Derived/Test/ToyasCard.lean, 'card_holds'). Laid BY PROGRAM, IN A SANDBOX (cutbox-door.mjs). By AI agents, Wed Nov 11 2026. No macro, syntax, notation, axiom, sorry.
-/
import Derived.Test.YtfpjdgobannneaaGreatDoorRows
import GoSem.ClaimSeven
namespace Go.Proofs.YtfpjdgobannneaaGreatDoor
namespace Rows

/-- THE TIED CARD OF 'intarsialaw05.MachReads'. -/
def machReadsCard : Claim7 := { stood := { row := machReadsRow, standIns := [], harness := (true, "240ded0305af3e760b324d977b596bb5506e8c8efa5acd5553ac54276682d094"), looks := true }, kinds := [], alts := [], laidByText := true, laidKinds := [.data, .data, .data, .sentinel, .sentinel], laidTests := true, laidLooks := .later }
def MachReadsCardSaid : Prop := Claim7.holds Tryz.pinned (.plain (OpenSpec.ofChange machReadsSpec)) machReadsCard

/-- THE TIED CARD OF 'intarsialaw05.MachTells'. -/
def machTellsCard : Claim7 := { stood := { row := machTellsRow, standIns := [], harness := (true, "240ded0305af3e760b324d977b596bb5506e8c8efa5acd5553ac54276682d094"), looks := true }, kinds := [], alts := [], laidByText := true, laidKinds := [.data, .data, .data, .sentinel, .sentinel], laidTests := true, laidLooks := .later }
def MachTellsCardSaid : Prop := Claim7.holds Tryz.pinned (.plain (OpenSpec.ofChange machTellsSpec)) machTellsCard

/-- THE TIED CARD OF 'intarsialaw05.MachEnds'. -/
def machEndsCard : Claim7 := { stood := { row := machEndsRow, standIns := [], harness := (true, "240ded0305af3e760b324d977b596bb5506e8c8efa5acd5553ac54276682d094"), looks := true }, kinds := [], alts := [], laidByText := true, laidKinds := [.data, .data, .data, .sentinel, .sentinel], laidTests := true, laidLooks := .later }
def MachEndsCardSaid : Prop := Claim7.holds Tryz.pinned (.plain (OpenSpec.ofChange machEndsSpec)) machEndsCard

/-- THE SECOND FORM's CARD OF 'intarsialaw05.MachReads'. -/
def machReadsUptoCard : Claim7 := { stood := { row := machReadsUptoRow, standIns := [], harness := (true, "240ded0305af3e760b324d977b596bb5506e8c8efa5acd5553ac54276682d094"), looks := true }, kinds := [], alts := [], laidByText := true, laidKinds := [.data, .data, .data, .sentinel, .sentinel], laidTests := true, laidLooks := .later }
def MachReadsUptoCardSaid : Prop := Claim7.holds Tryz.pinned (.plain (OpenSpec.upto machReadsSpec)) machReadsUptoCard

/-- THE SECOND FORM's CARD OF 'intarsialaw05.MachTells'. -/
def machTellsUptoCard : Claim7 := { stood := { row := machTellsUptoRow, standIns := [], harness := (true, "240ded0305af3e760b324d977b596bb5506e8c8efa5acd5553ac54276682d094"), looks := true }, kinds := [], alts := [], laidByText := true, laidKinds := [.data, .data, .data, .sentinel, .sentinel], laidTests := true, laidLooks := .later }
def MachTellsUptoCardSaid : Prop := Claim7.holds Tryz.pinned (.plain (OpenSpec.upto machTellsSpec)) machTellsUptoCard

/-- THE SECOND FORM's CARD OF 'intarsialaw05.MachEnds'. -/
def machEndsUptoCard : Claim7 := { stood := { row := machEndsUptoRow, standIns := [], harness := (true, "240ded0305af3e760b324d977b596bb5506e8c8efa5acd5553ac54276682d094"), looks := true }, kinds := [], alts := [], laidByText := true, laidKinds := [.data, .data, .data, .sentinel, .sentinel], laidTests := true, laidLooks := .later }
def MachEndsUptoCardSaid : Prop := Claim7.holds Tryz.pinned (.plain (OpenSpec.upto machEndsSpec)) machEndsUptoCard
end Rows
end Go.Proofs.YtfpjdgobannneaaGreatDoor
