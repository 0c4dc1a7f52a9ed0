/-
  DERIVED. GIVEN WITH THE SEED: THE CARDS: each row of YtoibcaoaljglbaaDoorRows.lean that lists a variable, with what it lists TIED to the program's text (the seventh form; the later family's looks); each row that meets fmt, with fmt's text TOLD by the authors' own Lean function (tested against real Go, not proved from fmt's source: count such statements apart). THE CARD IS WHAT COUNTS. Prove the row's statement (the work); the ties are given (YtoibcaoaljglbaaDoorTie.lean); close each card by the builder's one call (the guide's Derived/Test/ToyasCard.lean, 'card_holds'). Laid BY PROGRAM, IN A SANDBOX (cutbox-door.mjs). By AI agents, Wed Nov 11 2026. No macro, syntax, notation, axiom, sorry.
-/
import Derived.Test.YtoibcaoaljglbaaDoorRows
import GoSem.ClaimSeven
namespace Go.Proofs.YtoibcaoaljglbaaDoor
namespace Rows

/-- THE TIED CARD OF 'intarsialaw02.LineAll'. -/
def lineAllCard : Claim7 := { stood := { row := lineAllRow, standIns := [], harness := (true, "3e108a4e50e2c59f6a2e2fb882077d4dc4d4c2d491b9b87bf59714ff81e34069"), looks := true }, kinds := [], alts := [], laidByText := true, laidKinds := [.data, .data, .data, .sentinel, .sentinel], laidTests := true, laidLooks := .later }
def LineAllCardSaid : Prop := Claim7.holds Tryd.pinned (.plain (OpenSpec.ofChange lineAllSpec)) lineAllCard

/-- THE TIED CARD OF 'intarsialaw02.LineBlank'. -/
def lineBlankCard : Claim7 := { stood := { row := lineBlankRow, standIns := [], harness := (true, "3e108a4e50e2c59f6a2e2fb882077d4dc4d4c2d491b9b87bf59714ff81e34069"), looks := true }, kinds := [], alts := [], laidByText := true, laidKinds := [.data, .data, .data, .sentinel, .sentinel], laidTests := true, laidLooks := .later }
def LineBlankCardSaid : Prop := Claim7.holds Tryd.pinned (.plain (OpenSpec.ofChange lineBlankSpec)) lineBlankCard

/-- THE TIED CARD OF 'intarsialaw02.LineGets'. -/
def lineGetsCard : Claim7 := { stood := { row := lineGetsRow, standIns := [], harness := (true, "3e108a4e50e2c59f6a2e2fb882077d4dc4d4c2d491b9b87bf59714ff81e34069"), looks := true }, kinds := [], alts := [], laidByText := true, laidKinds := [.data, .data, .data, .sentinel, .sentinel], laidTests := true, laidLooks := .later }
def LineGetsCardSaid : Prop := Claim7.holds Tryd.pinned (.plain (OpenSpec.ofChange lineGetsSpec)) lineGetsCard

/-- THE TIED CARD OF 'intarsialaw02.LineEnds'. -/
def lineEndsCard : Claim7 := { stood := { row := lineEndsRow, standIns := [], harness := (true, "3e108a4e50e2c59f6a2e2fb882077d4dc4d4c2d491b9b87bf59714ff81e34069"), looks := true }, kinds := [], alts := [], laidByText := true, laidKinds := [.data, .data, .data, .sentinel, .sentinel], laidTests := true, laidLooks := .later }
def LineEndsCardSaid : Prop := Claim7.holds Tryd.pinned (.plain (OpenSpec.ofChange lineEndsSpec)) lineEndsCard

/-- THE SECOND FORM's CARD OF 'intarsialaw02.LineAll'. -/
def lineAllUptoCard : Claim7 := { stood := { row := lineAllUptoRow, standIns := [], harness := (true, "3e108a4e50e2c59f6a2e2fb882077d4dc4d4c2d491b9b87bf59714ff81e34069"), looks := true }, kinds := [], alts := [], laidByText := true, laidKinds := [.data, .data, .data, .sentinel, .sentinel], laidTests := true, laidLooks := .later }
def LineAllUptoCardSaid : Prop := Claim7.holds Tryd.pinned (.plain (OpenSpec.upto lineAllSpec)) lineAllUptoCard

/-- THE SECOND FORM's CARD OF 'intarsialaw02.LineBlank'. -/
def lineBlankUptoCard : Claim7 := { stood := { row := lineBlankUptoRow, standIns := [], harness := (true, "3e108a4e50e2c59f6a2e2fb882077d4dc4d4c2d491b9b87bf59714ff81e34069"), looks := true }, kinds := [], alts := [], laidByText := true, laidKinds := [.data, .data, .data, .sentinel, .sentinel], laidTests := true, laidLooks := .later }
def LineBlankUptoCardSaid : Prop := Claim7.holds Tryd.pinned (.plain (OpenSpec.upto lineBlankSpec)) lineBlankUptoCard

/-- THE SECOND FORM's CARD OF 'intarsialaw02.LineGets'. -/
def lineGetsUptoCard : Claim7 := { stood := { row := lineGetsUptoRow, standIns := [], harness := (true, "3e108a4e50e2c59f6a2e2fb882077d4dc4d4c2d491b9b87bf59714ff81e34069"), looks := true }, kinds := [], alts := [], laidByText := true, laidKinds := [.data, .data, .data, .sentinel, .sentinel], laidTests := true, laidLooks := .later }
def LineGetsUptoCardSaid : Prop := Claim7.holds Tryd.pinned (.plain (OpenSpec.upto lineGetsSpec)) lineGetsUptoCard

/-- THE SECOND FORM's CARD OF 'intarsialaw02.LineEnds'. -/
def lineEndsUptoCard : Claim7 := { stood := { row := lineEndsUptoRow, standIns := [], harness := (true, "3e108a4e50e2c59f6a2e2fb882077d4dc4d4c2d491b9b87bf59714ff81e34069"), looks := true }, kinds := [], alts := [], laidByText := true, laidKinds := [.data, .data, .data, .sentinel, .sentinel], laidTests := true, laidLooks := .later }
def LineEndsUptoCardSaid : Prop := Claim7.holds Tryd.pinned (.plain (OpenSpec.upto lineEndsSpec)) lineEndsUptoCard
end Rows
end Go.Proofs.YtoibcaoaljglbaaDoor
