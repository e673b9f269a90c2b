/-
  DERIVED. GIVEN WITH THE SEED: THE CARDS: each row of YtlbieeajocjpeaaGreatDoorRows.lean that lists a variable, with what it lists TIED to the program's text (the seventh form; the later family's looks); each row that meets fmt, with fmt's text TOLD by the authors' own Lean function (tested against real Go, not proved from fmt's source: count such statements apart). THE CARD IS WHAT COUNTS. Prove the row's statement (the work); the ties are given (YtlbieeajocjpeaaGreatDoorTie.lean); close each card by the builder's one call (the guide's Derived/Test/ToyasCard.lean, 'card_holds'). Laid BY PROGRAM, IN A SANDBOX (cutbox-door.mjs). By AI agents, Wed Nov 11 2026. No macro, syntax, notation, axiom, sorry.
-/
import Derived.Test.YtlbieeajocjpeaaGreatDoorRows
import GoSem.ClaimSeven
namespace Go.Proofs.YtlbieeajocjpeaaGreatDoor
namespace Rows

/-- THE TIED CARD OF 'binnaclelaw17.FrontBack'. -/
def frontBackCard : Claim7 := { stood := { row := frontBackRow, standIns := [], harness := (true, "c3738d7cda8df9f4ecbb7156bb150eb071a69c5a717a939f2a8a12908b4b3ced"), looks := true }, kinds := [], alts := [], laidByText := true, laidKinds := [.data, .data, .data, .data, .sentinel, .sentinel, .listed, .data, .pinned], laidTests := true, laidLooks := .later }
def FrontBackCardSaid : Prop := Claim7.holds Tryz.pinned (.plain (OpenSpec.ofChange frontBackSpec)) frontBackCard

/-- THE TIED CARD OF 'binnaclelaw17.FrontPlaces'. -/
def frontPlacesCard : Claim7 := { stood := { row := frontPlacesRow, standIns := [], harness := (true, "c3738d7cda8df9f4ecbb7156bb150eb071a69c5a717a939f2a8a12908b4b3ced"), looks := true }, kinds := [], alts := [], laidByText := true, laidKinds := [.data, .data, .data, .data, .sentinel, .sentinel, .listed, .data, .pinned], laidTests := true, laidLooks := .later }
def FrontPlacesCardSaid : Prop := Claim7.holds Tryz.pinned (.plain (OpenSpec.ofChange frontPlacesSpec)) frontPlacesCard

/-- THE TIED CARD OF 'binnaclelaw17.FrontBrackets'. -/
def frontBracketsCard : Claim7 := { stood := { row := frontBracketsRow, standIns := [], harness := (true, "c3738d7cda8df9f4ecbb7156bb150eb071a69c5a717a939f2a8a12908b4b3ced"), looks := true }, kinds := [], alts := [], laidByText := true, laidKinds := [.data, .data, .data, .data, .sentinel, .sentinel, .listed, .data, .pinned], laidTests := true, laidLooks := .later }
def FrontBracketsCardSaid : Prop := Claim7.holds Tryz.pinned (.plain (OpenSpec.ofChange frontBracketsSpec)) frontBracketsCard

/-- THE SECOND FORM's CARD OF 'binnaclelaw17.FrontBack'. -/
def frontBackUptoCard : Claim7 := { stood := { row := frontBackUptoRow, standIns := [], harness := (true, "c3738d7cda8df9f4ecbb7156bb150eb071a69c5a717a939f2a8a12908b4b3ced"), looks := true }, kinds := [], alts := [], laidByText := true, laidKinds := [.data, .data, .data, .data, .sentinel, .sentinel, .listed, .data, .pinned], laidTests := true, laidLooks := .later }
def FrontBackUptoCardSaid : Prop := Claim7.holds Tryz.pinned (.plain (OpenSpec.upto frontBackSpec)) frontBackUptoCard

/-- THE SECOND FORM's CARD OF 'binnaclelaw17.FrontPlaces'. -/
def frontPlacesUptoCard : Claim7 := { stood := { row := frontPlacesUptoRow, standIns := [], harness := (true, "c3738d7cda8df9f4ecbb7156bb150eb071a69c5a717a939f2a8a12908b4b3ced"), looks := true }, kinds := [], alts := [], laidByText := true, laidKinds := [.data, .data, .data, .data, .sentinel, .sentinel, .listed, .data, .pinned], laidTests := true, laidLooks := .later }
def FrontPlacesUptoCardSaid : Prop := Claim7.holds Tryz.pinned (.plain (OpenSpec.upto frontPlacesSpec)) frontPlacesUptoCard

/-- THE SECOND FORM's CARD OF 'binnaclelaw17.FrontBrackets'. -/
def frontBracketsUptoCard : Claim7 := { stood := { row := frontBracketsUptoRow, standIns := [], harness := (true, "c3738d7cda8df9f4ecbb7156bb150eb071a69c5a717a939f2a8a12908b4b3ced"), looks := true }, kinds := [], alts := [], laidByText := true, laidKinds := [.data, .data, .data, .data, .sentinel, .sentinel, .listed, .data, .pinned], laidTests := true, laidLooks := .later }
def FrontBracketsUptoCardSaid : Prop := Claim7.holds Tryz.pinned (.plain (OpenSpec.upto frontBracketsSpec)) frontBracketsUptoCard
end Rows
end Go.Proofs.YtlbieeajocjpeaaGreatDoor
