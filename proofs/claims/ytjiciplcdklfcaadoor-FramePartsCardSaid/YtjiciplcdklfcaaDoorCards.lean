/-
  DERIVED. GIVEN WITH THE SEED: THE CARDS: each row of YtjiciplcdklfcaaDoorRows.lean that lists a variable, with what it lists TIED to the program's text (the seventh form; the later family's looks); each row that meets fmt, with fmt's text TOLD by the authors' own Lean function (tested against real Go, not proved from fmt's source: count such statements apart). THE CARD IS WHAT COUNTS. Prove the row's statement (the work); the ties are given (YtjiciplcdklfcaaDoorTie.lean); close each card by the builder's one call (the guide's Derived/Test/ToyasCard.lean, 'card_holds'). Laid BY PROGRAM, IN A SANDBOX (cutbox-door.mjs). By AI agents, Wed Nov 11 2026. No macro, syntax, notation, axiom, sorry.
-/
import Derived.Test.YtjiciplcdklfcaaDoorRows
import GoSem.ClaimSeven
namespace Go.Proofs.YtjiciplcdklfcaaDoor
namespace Rows

/-- THE TIED CARD OF 'bedrocklaw08.FrameCodes'. -/
def frameCodesCard : Claim7 := { stood := { row := frameCodesRow, standIns := [], harness := (true, "886d3f1adadbb9bbe5b7f9ecfcb6b110252039037caaeb7496236f3fe1e5c092"), looks := false }, kinds := [], alts := [], laidByText := true, laidKinds := [.data, .pinned], laidTests := true, laidLooks := .later }
def FrameCodesCardSaid : Prop := Claim7.holds Tryd.pinned (.plain (OpenSpec.ofChange frameCodesSpec)) frameCodesCard

/-- THE TIED CARD OF 'bedrocklaw08.FrameParts'. -/
def framePartsCard : Claim7 := { stood := { row := framePartsRow, standIns := [], harness := (true, "886d3f1adadbb9bbe5b7f9ecfcb6b110252039037caaeb7496236f3fe1e5c092"), looks := false }, kinds := [], alts := [], laidByText := true, laidKinds := [.data, .pinned], laidTests := true, laidLooks := .later }
def FramePartsCardSaid : Prop := Claim7.holds Tryd.pinned (.plain (OpenSpec.ofChange framePartsSpec)) framePartsCard

/-- THE TIED CARD OF 'bedrocklaw08.FrameStreams'. -/
def frameStreamsCard : Claim7 := { stood := { row := frameStreamsRow, standIns := [], harness := (true, "886d3f1adadbb9bbe5b7f9ecfcb6b110252039037caaeb7496236f3fe1e5c092"), looks := false }, kinds := [], alts := [], laidByText := true, laidKinds := [.data, .pinned], laidTests := true, laidLooks := .later }
def FrameStreamsCardSaid : Prop := Claim7.holds Tryd.pinned (.plain (OpenSpec.ofChange frameStreamsSpec)) frameStreamsCard

/-- THE TIED CARD OF 'bedrocklaw08.FrameNil'. -/
def frameNilCard : Claim7 := { stood := { row := frameNilRow, standIns := [], harness := (true, "886d3f1adadbb9bbe5b7f9ecfcb6b110252039037caaeb7496236f3fe1e5c092"), looks := false }, kinds := [], alts := [], laidByText := true, laidKinds := [.data, .pinned], laidTests := true, laidLooks := .later }
def FrameNilCardSaid : Prop := Claim7.holds Tryd.pinned (.plain (OpenSpec.ofChange frameNilSpec)) frameNilCard

/-- THE SECOND FORM's CARD OF 'bedrocklaw08.FrameCodes'. -/
def frameCodesUptoCard : Claim7 := { stood := { row := frameCodesUptoRow, standIns := [], harness := (true, "886d3f1adadbb9bbe5b7f9ecfcb6b110252039037caaeb7496236f3fe1e5c092"), looks := false }, kinds := [], alts := [], laidByText := true, laidKinds := [.data, .pinned], laidTests := true, laidLooks := .later }
def FrameCodesUptoCardSaid : Prop := Claim7.holds Tryd.pinned (.plain (OpenSpec.upto frameCodesSpec)) frameCodesUptoCard

/-- THE SECOND FORM's CARD OF 'bedrocklaw08.FrameParts'. -/
def framePartsUptoCard : Claim7 := { stood := { row := framePartsUptoRow, standIns := [], harness := (true, "886d3f1adadbb9bbe5b7f9ecfcb6b110252039037caaeb7496236f3fe1e5c092"), looks := false }, kinds := [], alts := [], laidByText := true, laidKinds := [.data, .pinned], laidTests := true, laidLooks := .later }
def FramePartsUptoCardSaid : Prop := Claim7.holds Tryd.pinned (.plain (OpenSpec.upto framePartsSpec)) framePartsUptoCard

/-- THE SECOND FORM's CARD OF 'bedrocklaw08.FrameStreams'. -/
def frameStreamsUptoCard : Claim7 := { stood := { row := frameStreamsUptoRow, standIns := [], harness := (true, "886d3f1adadbb9bbe5b7f9ecfcb6b110252039037caaeb7496236f3fe1e5c092"), looks := false }, kinds := [], alts := [], laidByText := true, laidKinds := [.data, .pinned], laidTests := true, laidLooks := .later }
def FrameStreamsUptoCardSaid : Prop := Claim7.holds Tryd.pinned (.plain (OpenSpec.upto frameStreamsSpec)) frameStreamsUptoCard

/-- THE SECOND FORM's CARD OF 'bedrocklaw08.FrameNil'. -/
def frameNilUptoCard : Claim7 := { stood := { row := frameNilUptoRow, standIns := [], harness := (true, "886d3f1adadbb9bbe5b7f9ecfcb6b110252039037caaeb7496236f3fe1e5c092"), looks := false }, kinds := [], alts := [], laidByText := true, laidKinds := [.data, .pinned], laidTests := true, laidLooks := .later }
def FrameNilUptoCardSaid : Prop := Claim7.holds Tryd.pinned (.plain (OpenSpec.upto frameNilSpec)) frameNilUptoCard
end Rows
end Go.Proofs.YtjiciplcdklfcaaDoor
