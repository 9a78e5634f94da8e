/-
  DERIVED. GIVEN WITH THE SEED: THE CARDS: each row of YtjfmidcaekhhgaaGreatDoorRows.lean that lists a variable, with what it lists TIED to the program's text (the seventh form; the later family's looks); each row that meets fmt, with fmt's text TOLD by the authors' own Lean function (tested against real Go, not proved from fmt's source: count such statements apart). THE CARD IS WHAT COUNTS. Prove the row's statement (the work); the ties are given (YtjfmidcaekhhgaaGreatDoorTie.lean); close each card by the builder's one call (the guide's Derived/Test/ToyasCard.lean, 'card_holds'). Laid BY PROGRAM, IN A SANDBOX (cutbox-door.mjs). By AI agents, Wed Nov 11 2026. No macro, syntax, notation, axiom, sorry.
-/
import Derived.Test.YtjfmidcaekhhgaaGreatDoorRows
import GoSem.ClaimSeven
namespace Go.Proofs.YtjfmidcaekhhgaaGreatDoor
namespace Rows

/-- THE TIED CARD OF 'parrellaw10.MsgCodes'. -/
def msgCodesCard : Claim7 := { stood := { row := msgCodesRow, standIns := [], harness := (true, "d0b0f44baa65b98675781649faf1025e0dcdf9f8ca1d55d794857507641a1f84"), looks := false }, kinds := [], alts := [], laidByText := true, laidKinds := [.data, .pinned], laidTests := true, laidLooks := .later }
def MsgCodesCardSaid : Prop := Claim7.holds Tryz.pinned (.plain (OpenSpec.ofChange msgCodesSpec)) msgCodesCard

/-- THE TIED CARD OF 'parrellaw11.RecCodes'. -/
def recCodesCard : Claim7 := { stood := { row := recCodesRow, standIns := [], harness := (true, "d0b0f44baa65b98675781649faf1025e0dcdf9f8ca1d55d794857507641a1f84"), looks := false }, kinds := [], alts := [], laidByText := true, laidKinds := [.data, .pinned], laidTests := true, laidLooks := .later }
def RecCodesCardSaid : Prop := Claim7.holds Tryz.pinned (.plain (OpenSpec.ofChange recCodesSpec)) recCodesCard

/-- THE TIED CARD OF 'parrellaw10.MsgMay'. -/
def msgMayCard : Claim7 := { stood := { row := msgMayRow, standIns := [], harness := (true, "d0b0f44baa65b98675781649faf1025e0dcdf9f8ca1d55d794857507641a1f84"), looks := false }, kinds := [], alts := [], laidByText := true, laidKinds := [.data, .pinned], laidTests := true, laidLooks := .later }
def MsgMayCardSaid : Prop := Claim7.holds Tryz.pinned (.plain (OpenSpec.ofChange msgMaySpec)) msgMayCard

/-- THE TIED CARD OF 'parrellaw11.RecMay'. -/
def recMayCard : Claim7 := { stood := { row := recMayRow, standIns := [], harness := (true, "d0b0f44baa65b98675781649faf1025e0dcdf9f8ca1d55d794857507641a1f84"), looks := false }, kinds := [], alts := [], laidByText := true, laidKinds := [.data, .pinned], laidTests := true, laidLooks := .later }
def RecMayCardSaid : Prop := Claim7.holds Tryz.pinned (.plain (OpenSpec.ofChange recMaySpec)) recMayCard

/-- THE TIED CARD OF 'parrellaw11.RecBack'. -/
def recBackCard : Claim7 := { stood := { row := recBackRow, standIns := [], harness := (true, "d0b0f44baa65b98675781649faf1025e0dcdf9f8ca1d55d794857507641a1f84"), looks := false }, kinds := [], alts := [], laidByText := true, laidKinds := [.data, .pinned], laidTests := true, laidLooks := .later }
def RecBackCardSaid : Prop := Claim7.holds Tryz.pinned (.plain (OpenSpec.ofChange recBackSpec)) recBackCard

/-- THE SECOND FORM's CARD OF 'parrellaw10.MsgCodes'. -/
def msgCodesUptoCard : Claim7 := { stood := { row := msgCodesUptoRow, standIns := [], harness := (true, "d0b0f44baa65b98675781649faf1025e0dcdf9f8ca1d55d794857507641a1f84"), looks := false }, kinds := [], alts := [], laidByText := true, laidKinds := [.data, .pinned], laidTests := true, laidLooks := .later }
def MsgCodesUptoCardSaid : Prop := Claim7.holds Tryz.pinned (.plain (OpenSpec.upto msgCodesSpec)) msgCodesUptoCard

/-- THE SECOND FORM's CARD OF 'parrellaw11.RecCodes'. -/
def recCodesUptoCard : Claim7 := { stood := { row := recCodesUptoRow, standIns := [], harness := (true, "d0b0f44baa65b98675781649faf1025e0dcdf9f8ca1d55d794857507641a1f84"), looks := false }, kinds := [], alts := [], laidByText := true, laidKinds := [.data, .pinned], laidTests := true, laidLooks := .later }
def RecCodesUptoCardSaid : Prop := Claim7.holds Tryz.pinned (.plain (OpenSpec.upto recCodesSpec)) recCodesUptoCard

/-- THE SECOND FORM's CARD OF 'parrellaw10.MsgMay'. -/
def msgMayUptoCard : Claim7 := { stood := { row := msgMayUptoRow, standIns := [], harness := (true, "d0b0f44baa65b98675781649faf1025e0dcdf9f8ca1d55d794857507641a1f84"), looks := false }, kinds := [], alts := [], laidByText := true, laidKinds := [.data, .pinned], laidTests := true, laidLooks := .later }
def MsgMayUptoCardSaid : Prop := Claim7.holds Tryz.pinned (.plain (OpenSpec.upto msgMaySpec)) msgMayUptoCard

/-- THE SECOND FORM's CARD OF 'parrellaw11.RecMay'. -/
def recMayUptoCard : Claim7 := { stood := { row := recMayUptoRow, standIns := [], harness := (true, "d0b0f44baa65b98675781649faf1025e0dcdf9f8ca1d55d794857507641a1f84"), looks := false }, kinds := [], alts := [], laidByText := true, laidKinds := [.data, .pinned], laidTests := true, laidLooks := .later }
def RecMayUptoCardSaid : Prop := Claim7.holds Tryz.pinned (.plain (OpenSpec.upto recMaySpec)) recMayUptoCard

/-- THE SECOND FORM's CARD OF 'parrellaw11.RecBack'. -/
def recBackUptoCard : Claim7 := { stood := { row := recBackUptoRow, standIns := [], harness := (true, "d0b0f44baa65b98675781649faf1025e0dcdf9f8ca1d55d794857507641a1f84"), looks := false }, kinds := [], alts := [], laidByText := true, laidKinds := [.data, .pinned], laidTests := true, laidLooks := .later }
def RecBackUptoCardSaid : Prop := Claim7.holds Tryz.pinned (.plain (OpenSpec.upto recBackSpec)) recBackUptoCard
end Rows
end Go.Proofs.YtjfmidcaekhhgaaGreatDoor
