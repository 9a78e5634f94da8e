/-
  DERIVED. GIVEN WITH THE SEED: THE CARDS: each row of YtjfmidcaekhhgaaDoorRows.lean that lists a variable, with what it lists TIED to the program's text (the seventh form; the later family's looks); each row that meets fmt, with fmt's text TOLD by the authors' own Lean function (tested against real Go, not proved from fmt's source: count such statements apart). THE CARD IS WHAT COUNTS. Prove the row's statement (the work); the ties are given (YtjfmidcaekhhgaaDoorTie.lean); close each card by the builder's one call (the guide's Derived/Test/ToyasCard.lean, 'card_holds'). Laid BY PROGRAM, IN A SANDBOX (cutbox-door.mjs). By AI agents, Wed Nov 11 2026. No macro, syntax, notation, axiom, sorry.
-/
import Derived.Test.YtjfmidcaekhhgaaDoorRows
import GoSem.ClaimSeven
namespace Go.Proofs.YtjfmidcaekhhgaaDoor
namespace Rows

/-- THE TIED CARD OF 'parrellaw10.MsgBack'. -/
def msgBackCard : Claim7 := { stood := { row := msgBackRow, standIns := [], harness := (true, "7fa63e05fc2a7b06b7acf3c04aaeffc3d684e17ef771cb9a6ee462c80043dda4"), looks := false }, kinds := [], alts := [], laidByText := true, laidKinds := [.data, .pinned], laidTests := true, laidLooks := .later }
def MsgBackCardSaid : Prop := Claim7.holds Tryd.pinned (.plain (OpenSpec.ofChange msgBackSpec)) msgBackCard

/-- THE TIED CARD OF 'parrellaw10.MsgOne'. -/
def msgOneCard : Claim7 := { stood := { row := msgOneRow, standIns := [], harness := (true, "7fa63e05fc2a7b06b7acf3c04aaeffc3d684e17ef771cb9a6ee462c80043dda4"), looks := false }, kinds := [], alts := [], laidByText := true, laidKinds := [.data, .pinned], laidTests := true, laidLooks := .later }
def MsgOneCardSaid : Prop := Claim7.holds Tryd.pinned (.plain (OpenSpec.ofChange msgOneSpec)) msgOneCard

/-- THE TIED CARD OF 'parrellaw11.RecOne'. -/
def recOneCard : Claim7 := { stood := { row := recOneRow, standIns := [], harness := (true, "7fa63e05fc2a7b06b7acf3c04aaeffc3d684e17ef771cb9a6ee462c80043dda4"), looks := false }, kinds := [], alts := [], laidByText := true, laidKinds := [.data, .pinned], laidTests := true, laidLooks := .later }
def RecOneCardSaid : Prop := Claim7.holds Tryd.pinned (.plain (OpenSpec.ofChange recOneSpec)) recOneCard

/-- THE SECOND FORM's CARD OF 'parrellaw10.MsgBack'. -/
def msgBackUptoCard : Claim7 := { stood := { row := msgBackUptoRow, standIns := [], harness := (true, "7fa63e05fc2a7b06b7acf3c04aaeffc3d684e17ef771cb9a6ee462c80043dda4"), looks := false }, kinds := [], alts := [], laidByText := true, laidKinds := [.data, .pinned], laidTests := true, laidLooks := .later }
def MsgBackUptoCardSaid : Prop := Claim7.holds Tryd.pinned (.plain (OpenSpec.upto msgBackSpec)) msgBackUptoCard

/-- THE SECOND FORM's CARD OF 'parrellaw10.MsgOne'. -/
def msgOneUptoCard : Claim7 := { stood := { row := msgOneUptoRow, standIns := [], harness := (true, "7fa63e05fc2a7b06b7acf3c04aaeffc3d684e17ef771cb9a6ee462c80043dda4"), looks := false }, kinds := [], alts := [], laidByText := true, laidKinds := [.data, .pinned], laidTests := true, laidLooks := .later }
def MsgOneUptoCardSaid : Prop := Claim7.holds Tryd.pinned (.plain (OpenSpec.upto msgOneSpec)) msgOneUptoCard

/-- THE SECOND FORM's CARD OF 'parrellaw11.RecOne'. -/
def recOneUptoCard : Claim7 := { stood := { row := recOneUptoRow, standIns := [], harness := (true, "7fa63e05fc2a7b06b7acf3c04aaeffc3d684e17ef771cb9a6ee462c80043dda4"), looks := false }, kinds := [], alts := [], laidByText := true, laidKinds := [.data, .pinned], laidTests := true, laidLooks := .later }
def RecOneUptoCardSaid : Prop := Claim7.holds Tryd.pinned (.plain (OpenSpec.upto recOneSpec)) recOneUptoCard
end Rows
end Go.Proofs.YtjfmidcaekhhgaaDoor
