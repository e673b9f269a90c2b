/-
  DERIVED. GIVEN WITH THE SEED: THE CARDS: each row of YtjjhefdfjagkaaaGreatDoorRows.lean that lists a variable, with what it lists TIED to the program's text (the seventh form; the later family's looks); each row that meets fmt, with fmt's text TOLD by the authors' own Lean function (tested against real Go, not proved from fmt's source: count such statements apart). THE CARD IS WHAT COUNTS. Prove the row's statement (the work); the ties are given (YtjjhefdfjagkaaaGreatDoorTie.lean); close each card by the builder's one call (the guide's Derived/Test/ToyasCard.lean, 'card_holds'). Laid BY PROGRAM, IN A SANDBOX (cutbox-door.mjs). By AI agents, Wed Nov 11 2026. No macro, syntax, notation, axiom, sorry.
-/
import Derived.Test.YtjjhefdfjagkaaaGreatDoorRows
import GoSem.ClaimSeven
namespace Go.Proofs.YtjjhefdfjagkaaaGreatDoor
namespace Rows

/-- THE TIED CARD OF 'binnaclelaw18.SortSources'. -/
def sortSourcesCard : Claim7 := { stood := { row := sortSourcesRow, standIns := [], harness := (true, "76595a43e2c42417ac123478d63f91474061b0dbfbed407a08c6ee96bae1340f"), looks := true }, kinds := [], alts := [], laidByText := true, laidKinds := [.data, .data, .data, .data, .sentinel, .sentinel, .listed, .data, .pinned], laidTests := true, laidLooks := .later }
def SortSourcesCardSaid : Prop := Claim7.holds Tryz.pinned (.plain (OpenSpec.ofChange sortSourcesSpec)) sortSourcesCard

/-- THE TIED CARD OF 'binnaclelaw18.SortNames'. -/
def sortNamesCard : Claim7 := { stood := { row := sortNamesRow, standIns := [], harness := (true, "76595a43e2c42417ac123478d63f91474061b0dbfbed407a08c6ee96bae1340f"), looks := true }, kinds := [], alts := [], laidByText := true, laidKinds := [.data, .data, .data, .data, .sentinel, .sentinel, .listed, .data, .pinned], laidTests := true, laidLooks := .later }
def SortNamesCardSaid : Prop := Claim7.holds Tryz.pinned (.plain (OpenSpec.ofChange sortNamesSpec)) sortNamesCard

/-- THE TIED CARD OF 'binnaclelaw18.SortRenamed'. -/
def sortRenamedCard : Claim7 := { stood := { row := sortRenamedRow, standIns := [], harness := (true, "76595a43e2c42417ac123478d63f91474061b0dbfbed407a08c6ee96bae1340f"), looks := true }, kinds := [], alts := [], laidByText := true, laidKinds := [.data, .data, .data, .data, .sentinel, .sentinel, .listed, .data, .pinned], laidTests := true, laidLooks := .later }
def SortRenamedCardSaid : Prop := Claim7.holds Tryz.pinned (.plain (OpenSpec.ofChange sortRenamedSpec)) sortRenamedCard

/-- THE TIED CARD OF 'binnaclelaw18.SortSpare'. -/
def sortSpareCard : Claim7 := { stood := { row := sortSpareRow, standIns := [], harness := (true, "76595a43e2c42417ac123478d63f91474061b0dbfbed407a08c6ee96bae1340f"), looks := true }, kinds := [], alts := [], laidByText := true, laidKinds := [.data, .data, .data, .data, .sentinel, .sentinel, .listed, .data, .pinned], laidTests := true, laidLooks := .later }
def SortSpareCardSaid : Prop := Claim7.holds Tryz.pinned (.plain (OpenSpec.ofChange sortSpareSpec)) sortSpareCard

/-- THE TIED CARD OF 'binnaclelaw18.SortTypes'. -/
def sortTypesCard : Claim7 := { stood := { row := sortTypesRow, standIns := [], harness := (true, "76595a43e2c42417ac123478d63f91474061b0dbfbed407a08c6ee96bae1340f"), looks := true }, kinds := [], alts := [], laidByText := true, laidKinds := [.data, .data, .data, .data, .sentinel, .sentinel, .listed, .data, .pinned], laidTests := true, laidLooks := .later }
def SortTypesCardSaid : Prop := Claim7.holds Tryz.pinned (.plain (OpenSpec.ofChange sortTypesSpec)) sortTypesCard

/-- THE SECOND FORM's CARD OF 'binnaclelaw18.SortSources'. -/
def sortSourcesUptoCard : Claim7 := { stood := { row := sortSourcesUptoRow, standIns := [], harness := (true, "76595a43e2c42417ac123478d63f91474061b0dbfbed407a08c6ee96bae1340f"), looks := true }, kinds := [], alts := [], laidByText := true, laidKinds := [.data, .data, .data, .data, .sentinel, .sentinel, .listed, .data, .pinned], laidTests := true, laidLooks := .later }
def SortSourcesUptoCardSaid : Prop := Claim7.holds Tryz.pinned (.plain (OpenSpec.upto sortSourcesSpec)) sortSourcesUptoCard

/-- THE SECOND FORM's CARD OF 'binnaclelaw18.SortNames'. -/
def sortNamesUptoCard : Claim7 := { stood := { row := sortNamesUptoRow, standIns := [], harness := (true, "76595a43e2c42417ac123478d63f91474061b0dbfbed407a08c6ee96bae1340f"), looks := true }, kinds := [], alts := [], laidByText := true, laidKinds := [.data, .data, .data, .data, .sentinel, .sentinel, .listed, .data, .pinned], laidTests := true, laidLooks := .later }
def SortNamesUptoCardSaid : Prop := Claim7.holds Tryz.pinned (.plain (OpenSpec.upto sortNamesSpec)) sortNamesUptoCard

/-- THE SECOND FORM's CARD OF 'binnaclelaw18.SortRenamed'. -/
def sortRenamedUptoCard : Claim7 := { stood := { row := sortRenamedUptoRow, standIns := [], harness := (true, "76595a43e2c42417ac123478d63f91474061b0dbfbed407a08c6ee96bae1340f"), looks := true }, kinds := [], alts := [], laidByText := true, laidKinds := [.data, .data, .data, .data, .sentinel, .sentinel, .listed, .data, .pinned], laidTests := true, laidLooks := .later }
def SortRenamedUptoCardSaid : Prop := Claim7.holds Tryz.pinned (.plain (OpenSpec.upto sortRenamedSpec)) sortRenamedUptoCard

/-- THE SECOND FORM's CARD OF 'binnaclelaw18.SortSpare'. -/
def sortSpareUptoCard : Claim7 := { stood := { row := sortSpareUptoRow, standIns := [], harness := (true, "76595a43e2c42417ac123478d63f91474061b0dbfbed407a08c6ee96bae1340f"), looks := true }, kinds := [], alts := [], laidByText := true, laidKinds := [.data, .data, .data, .data, .sentinel, .sentinel, .listed, .data, .pinned], laidTests := true, laidLooks := .later }
def SortSpareUptoCardSaid : Prop := Claim7.holds Tryz.pinned (.plain (OpenSpec.upto sortSpareSpec)) sortSpareUptoCard

/-- THE SECOND FORM's CARD OF 'binnaclelaw18.SortTypes'. -/
def sortTypesUptoCard : Claim7 := { stood := { row := sortTypesUptoRow, standIns := [], harness := (true, "76595a43e2c42417ac123478d63f91474061b0dbfbed407a08c6ee96bae1340f"), looks := true }, kinds := [], alts := [], laidByText := true, laidKinds := [.data, .data, .data, .data, .sentinel, .sentinel, .listed, .data, .pinned], laidTests := true, laidLooks := .later }
def SortTypesUptoCardSaid : Prop := Claim7.holds Tryz.pinned (.plain (OpenSpec.upto sortTypesSpec)) sortTypesUptoCard
end Rows
end Go.Proofs.YtjjhefdfjagkaaaGreatDoor
