/-
  DERIVED. GIVEN WITH THE SEED: THE CARDS: each row of YtikkaopbfaknfaaDoorRows.lean that lists a variable, with what it lists TIED to the program's text (the seventh form; the later family's looks); each row that meets fmt, with fmt's text TOLD by the authors' own Lean function (tested against real Go, not proved from fmt's source: count such statements apart). THE CARD IS WHAT COUNTS. Prove the row's statement (the work); the ties are given (YtikkaopbfaknfaaDoorTie.lean); close each card by the builder's one call (the guide's Derived/Test/ToyasCard.lean, 'card_holds'). Laid BY PROGRAM, IN A SANDBOX (cutbox-door.mjs). By AI agents, Wed Nov 11 2026. No macro, syntax, notation, axiom, sorry.
-/
import Derived.Test.YtikkaopbfaknfaaDoorRows
import GoSem.ClaimSeven
namespace Go.Proofs.YtikkaopbfaknfaaDoor
namespace Rows

/-- THE TIED CARD OF 'intarsialaw02.LineAll'. -/
def lineAllCard : Claim7 := { stood := { row := lineAllRow, standIns := [], harness := (true, "a2d88c212cc20c6dfd0915b69681d747ce65661b924206bc91173b04548a697e"), looks := true }, kinds := [], alts := [], laidByText := true, laidKinds := [.data, .data, .data, .sentinel, .sentinel], laidTests := true, laidLooks := .later }
def LineAllCardSaid : Prop := Claim7.holds Tryd.pinned (.plain (OpenSpec.ofChange lineAllSpec)) lineAllCard

/-- THE TIED CARD OF 'intarsialaw02.LineBlank'. -/
def lineBlankCard : Claim7 := { stood := { row := lineBlankRow, standIns := [], harness := (true, "a2d88c212cc20c6dfd0915b69681d747ce65661b924206bc91173b04548a697e"), looks := true }, kinds := [], alts := [], laidByText := true, laidKinds := [.data, .data, .data, .sentinel, .sentinel], laidTests := true, laidLooks := .later }
def LineBlankCardSaid : Prop := Claim7.holds Tryd.pinned (.plain (OpenSpec.ofChange lineBlankSpec)) lineBlankCard

/-- THE TIED CARD OF 'intarsialaw02.LineGets'. -/
def lineGetsCard : Claim7 := { stood := { row := lineGetsRow, standIns := [], harness := (true, "a2d88c212cc20c6dfd0915b69681d747ce65661b924206bc91173b04548a697e"), looks := true }, kinds := [], alts := [], laidByText := true, laidKinds := [.data, .data, .data, .sentinel, .sentinel], laidTests := true, laidLooks := .later }
def LineGetsCardSaid : Prop := Claim7.holds Tryd.pinned (.plain (OpenSpec.ofChange lineGetsSpec)) lineGetsCard

/-- THE TIED CARD OF 'intarsialaw02.LineEnds'. -/
def lineEndsCard : Claim7 := { stood := { row := lineEndsRow, standIns := [], harness := (true, "a2d88c212cc20c6dfd0915b69681d747ce65661b924206bc91173b04548a697e"), looks := true }, kinds := [], alts := [], laidByText := true, laidKinds := [.data, .data, .data, .sentinel, .sentinel], laidTests := true, laidLooks := .later }
def LineEndsCardSaid : Prop := Claim7.holds Tryd.pinned (.plain (OpenSpec.ofChange lineEndsSpec)) lineEndsCard

/-- THE TIED CARD OF 'intarsialaw05.MachFew'. -/
def machFewCard : Claim7 := { stood := { row := machFewRow, standIns := [], harness := (true, "a2d88c212cc20c6dfd0915b69681d747ce65661b924206bc91173b04548a697e"), looks := true }, kinds := [], alts := [], laidByText := true, laidKinds := [.data, .data, .data, .sentinel, .sentinel], laidTests := true, laidLooks := .later }
def MachFewCardSaid : Prop := Claim7.holds Tryd.pinned (.plain (OpenSpec.ofChange machFewSpec)) machFewCard

/-- THE TIED CARD OF 'intarsialaw05.MachBack'. -/
def machBackCard : Claim7 := { stood := { row := machBackRow, standIns := [], harness := (true, "a2d88c212cc20c6dfd0915b69681d747ce65661b924206bc91173b04548a697e"), looks := true }, kinds := [], alts := [], laidByText := true, laidKinds := [.data, .data, .data, .sentinel, .sentinel], laidTests := true, laidLooks := .later }
def MachBackCardSaid : Prop := Claim7.holds Tryd.pinned (.plain (OpenSpec.ofChange machBackSpec)) machBackCard

/-- THE SECOND FORM's CARD OF 'intarsialaw02.LineAll'. -/
def lineAllUptoCard : Claim7 := { stood := { row := lineAllUptoRow, standIns := [], harness := (true, "a2d88c212cc20c6dfd0915b69681d747ce65661b924206bc91173b04548a697e"), looks := true }, kinds := [], alts := [], laidByText := true, laidKinds := [.data, .data, .data, .sentinel, .sentinel], laidTests := true, laidLooks := .later }
def LineAllUptoCardSaid : Prop := Claim7.holds Tryd.pinned (.plain (OpenSpec.upto lineAllSpec)) lineAllUptoCard

/-- THE SECOND FORM's CARD OF 'intarsialaw02.LineBlank'. -/
def lineBlankUptoCard : Claim7 := { stood := { row := lineBlankUptoRow, standIns := [], harness := (true, "a2d88c212cc20c6dfd0915b69681d747ce65661b924206bc91173b04548a697e"), looks := true }, kinds := [], alts := [], laidByText := true, laidKinds := [.data, .data, .data, .sentinel, .sentinel], laidTests := true, laidLooks := .later }
def LineBlankUptoCardSaid : Prop := Claim7.holds Tryd.pinned (.plain (OpenSpec.upto lineBlankSpec)) lineBlankUptoCard

/-- THE SECOND FORM's CARD OF 'intarsialaw02.LineGets'. -/
def lineGetsUptoCard : Claim7 := { stood := { row := lineGetsUptoRow, standIns := [], harness := (true, "a2d88c212cc20c6dfd0915b69681d747ce65661b924206bc91173b04548a697e"), looks := true }, kinds := [], alts := [], laidByText := true, laidKinds := [.data, .data, .data, .sentinel, .sentinel], laidTests := true, laidLooks := .later }
def LineGetsUptoCardSaid : Prop := Claim7.holds Tryd.pinned (.plain (OpenSpec.upto lineGetsSpec)) lineGetsUptoCard

/-- THE SECOND FORM's CARD OF 'intarsialaw02.LineEnds'. -/
def lineEndsUptoCard : Claim7 := { stood := { row := lineEndsUptoRow, standIns := [], harness := (true, "a2d88c212cc20c6dfd0915b69681d747ce65661b924206bc91173b04548a697e"), looks := true }, kinds := [], alts := [], laidByText := true, laidKinds := [.data, .data, .data, .sentinel, .sentinel], laidTests := true, laidLooks := .later }
def LineEndsUptoCardSaid : Prop := Claim7.holds Tryd.pinned (.plain (OpenSpec.upto lineEndsSpec)) lineEndsUptoCard

/-- THE SECOND FORM's CARD OF 'intarsialaw05.MachFew'. -/
def machFewUptoCard : Claim7 := { stood := { row := machFewUptoRow, standIns := [], harness := (true, "a2d88c212cc20c6dfd0915b69681d747ce65661b924206bc91173b04548a697e"), looks := true }, kinds := [], alts := [], laidByText := true, laidKinds := [.data, .data, .data, .sentinel, .sentinel], laidTests := true, laidLooks := .later }
def MachFewUptoCardSaid : Prop := Claim7.holds Tryd.pinned (.plain (OpenSpec.upto machFewSpec)) machFewUptoCard

/-- THE SECOND FORM's CARD OF 'intarsialaw05.MachBack'. -/
def machBackUptoCard : Claim7 := { stood := { row := machBackUptoRow, standIns := [], harness := (true, "a2d88c212cc20c6dfd0915b69681d747ce65661b924206bc91173b04548a697e"), looks := true }, kinds := [], alts := [], laidByText := true, laidKinds := [.data, .data, .data, .sentinel, .sentinel], laidTests := true, laidLooks := .later }
def MachBackUptoCardSaid : Prop := Claim7.holds Tryd.pinned (.plain (OpenSpec.upto machBackSpec)) machBackUptoCard
end Rows
end Go.Proofs.YtikkaopbfaknfaaDoor
