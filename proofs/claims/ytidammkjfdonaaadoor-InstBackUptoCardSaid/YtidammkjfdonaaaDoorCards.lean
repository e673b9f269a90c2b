/-
  DERIVED. GIVEN WITH THE SEED: THE CARDS: each row of YtidammkjfdonaaaDoorRows.lean that lists a variable, with what it lists TIED to the program's text (the seventh form; the later family's looks); each row that meets fmt, with fmt's text TOLD by the authors' own Lean function (tested against real Go, not proved from fmt's source: count such statements apart). THE CARD IS WHAT COUNTS. Prove the row's statement (the work); the ties are given (YtidammkjfdonaaaDoorTie.lean); close each card by the builder's one call (the guide's Derived/Test/ToyasCard.lean, 'card_holds'). Laid BY PROGRAM, IN A SANDBOX (cutbox-door.mjs). By AI agents, Wed Nov 11 2026. No macro, syntax, notation, axiom, sorry.
-/
import Derived.Test.YtidammkjfdonaaaDoorRows
import GoSem.ClaimSeven
namespace Go.Proofs.YtidammkjfdonaaaDoor
namespace Rows

/-- THE TIED CARD OF 'binnaclelaw02.InstWords'. -/
def instWordsCard : Claim7 := { stood := { row := instWordsRow, standIns := [], harness := (true, "0cea2f5bff4c048c5889141a0b915932c8f009f5f2c3838cc28c67d4c222624a"), looks := true }, kinds := [], alts := [], laidByText := true, laidKinds := [.data, .data, .data, .sentinel, .sentinel, .listed, .data], laidTests := true, laidLooks := .later }
def InstWordsCardSaid : Prop := Claim7.holds Tryd.pinned (.plain (OpenSpec.ofChange instWordsSpec)) instWordsCard

/-- THE TIED CARD OF 'binnaclelaw02.InstReads'. -/
def instReadsCard : Claim7 := { stood := { row := instReadsRow, standIns := [], harness := (true, "0cea2f5bff4c048c5889141a0b915932c8f009f5f2c3838cc28c67d4c222624a"), looks := true }, kinds := [], alts := [], laidByText := true, laidKinds := [.data, .data, .data, .sentinel, .sentinel, .listed, .data], laidTests := true, laidLooks := .later }
def InstReadsCardSaid : Prop := Claim7.holds Tryd.pinned (.plain (OpenSpec.ofChange instReadsSpec)) instReadsCard

/-- THE TIED CARD OF 'binnaclelaw02.InstTexts'. -/
def instTextsCard : Claim7 := { stood := { row := instTextsRow, standIns := [], harness := (true, "0cea2f5bff4c048c5889141a0b915932c8f009f5f2c3838cc28c67d4c222624a"), looks := true }, kinds := [], alts := [], laidByText := true, laidKinds := [.data, .data, .data, .sentinel, .sentinel, .listed, .data], laidTests := true, laidLooks := .later }
def InstTextsCardSaid : Prop := Claim7.holds Tryd.pinned (.plain (OpenSpec.ofChange instTextsSpec)) instTextsCard

/-- THE TIED CARD OF 'binnaclelaw02.InstBack'. -/
def instBackCard : Claim7 := { stood := { row := instBackRow, standIns := [], harness := (true, "0cea2f5bff4c048c5889141a0b915932c8f009f5f2c3838cc28c67d4c222624a"), looks := true }, kinds := [], alts := [], laidByText := true, laidKinds := [.data, .data, .data, .sentinel, .sentinel, .listed, .data], laidTests := true, laidLooks := .later }
def InstBackCardSaid : Prop := Claim7.holds Tryd.pinned (.plain (OpenSpec.ofChange instBackSpec)) instBackCard

/-- THE TIED CARD OF 'binnaclelaw02.InstNames'. -/
def instNamesCard : Claim7 := { stood := { row := instNamesRow, standIns := [], harness := (true, "0cea2f5bff4c048c5889141a0b915932c8f009f5f2c3838cc28c67d4c222624a"), looks := true }, kinds := [], alts := [], laidByText := true, laidKinds := [.data, .data, .data, .sentinel, .sentinel, .listed, .data], laidTests := true, laidLooks := .later }
def InstNamesCardSaid : Prop := Claim7.holds Tryd.pinned (.plain (OpenSpec.ofChange instNamesSpec)) instNamesCard

/-- THE TIED CARD OF 'binnaclelaw02.InstApart'. -/
def instApartCard : Claim7 := { stood := { row := instApartRow, standIns := [], harness := (true, "0cea2f5bff4c048c5889141a0b915932c8f009f5f2c3838cc28c67d4c222624a"), looks := true }, kinds := [], alts := [], laidByText := true, laidKinds := [.data, .data, .data, .sentinel, .sentinel, .listed, .data], laidTests := true, laidLooks := .later }
def InstApartCardSaid : Prop := Claim7.holds Tryd.pinned (.plain (OpenSpec.ofChange instApartSpec)) instApartCard

/-- THE TIED CARD OF 'binnaclelaw02.InstRegisters'. -/
def instRegistersCard : Claim7 := { stood := { row := instRegistersRow, standIns := [], harness := (true, "0cea2f5bff4c048c5889141a0b915932c8f009f5f2c3838cc28c67d4c222624a"), looks := true }, kinds := [], alts := [], laidByText := true, laidKinds := [.data, .data, .data, .sentinel, .sentinel, .listed, .data], laidTests := true, laidLooks := .later }
def InstRegistersCardSaid : Prop := Claim7.holds Tryd.pinned (.plain (OpenSpec.ofChange instRegistersSpec)) instRegistersCard

/-- THE SECOND FORM's CARD OF 'binnaclelaw02.InstWords'. -/
def instWordsUptoCard : Claim7 := { stood := { row := instWordsUptoRow, standIns := [], harness := (true, "0cea2f5bff4c048c5889141a0b915932c8f009f5f2c3838cc28c67d4c222624a"), looks := true }, kinds := [], alts := [], laidByText := true, laidKinds := [.data, .data, .data, .sentinel, .sentinel, .listed, .data], laidTests := true, laidLooks := .later }
def InstWordsUptoCardSaid : Prop := Claim7.holds Tryd.pinned (.plain (OpenSpec.upto instWordsSpec)) instWordsUptoCard

/-- THE SECOND FORM's CARD OF 'binnaclelaw02.InstReads'. -/
def instReadsUptoCard : Claim7 := { stood := { row := instReadsUptoRow, standIns := [], harness := (true, "0cea2f5bff4c048c5889141a0b915932c8f009f5f2c3838cc28c67d4c222624a"), looks := true }, kinds := [], alts := [], laidByText := true, laidKinds := [.data, .data, .data, .sentinel, .sentinel, .listed, .data], laidTests := true, laidLooks := .later }
def InstReadsUptoCardSaid : Prop := Claim7.holds Tryd.pinned (.plain (OpenSpec.upto instReadsSpec)) instReadsUptoCard

/-- THE SECOND FORM's CARD OF 'binnaclelaw02.InstTexts'. -/
def instTextsUptoCard : Claim7 := { stood := { row := instTextsUptoRow, standIns := [], harness := (true, "0cea2f5bff4c048c5889141a0b915932c8f009f5f2c3838cc28c67d4c222624a"), looks := true }, kinds := [], alts := [], laidByText := true, laidKinds := [.data, .data, .data, .sentinel, .sentinel, .listed, .data], laidTests := true, laidLooks := .later }
def InstTextsUptoCardSaid : Prop := Claim7.holds Tryd.pinned (.plain (OpenSpec.upto instTextsSpec)) instTextsUptoCard

/-- THE SECOND FORM's CARD OF 'binnaclelaw02.InstBack'. -/
def instBackUptoCard : Claim7 := { stood := { row := instBackUptoRow, standIns := [], harness := (true, "0cea2f5bff4c048c5889141a0b915932c8f009f5f2c3838cc28c67d4c222624a"), looks := true }, kinds := [], alts := [], laidByText := true, laidKinds := [.data, .data, .data, .sentinel, .sentinel, .listed, .data], laidTests := true, laidLooks := .later }
def InstBackUptoCardSaid : Prop := Claim7.holds Tryd.pinned (.plain (OpenSpec.upto instBackSpec)) instBackUptoCard

/-- THE SECOND FORM's CARD OF 'binnaclelaw02.InstNames'. -/
def instNamesUptoCard : Claim7 := { stood := { row := instNamesUptoRow, standIns := [], harness := (true, "0cea2f5bff4c048c5889141a0b915932c8f009f5f2c3838cc28c67d4c222624a"), looks := true }, kinds := [], alts := [], laidByText := true, laidKinds := [.data, .data, .data, .sentinel, .sentinel, .listed, .data], laidTests := true, laidLooks := .later }
def InstNamesUptoCardSaid : Prop := Claim7.holds Tryd.pinned (.plain (OpenSpec.upto instNamesSpec)) instNamesUptoCard

/-- THE SECOND FORM's CARD OF 'binnaclelaw02.InstApart'. -/
def instApartUptoCard : Claim7 := { stood := { row := instApartUptoRow, standIns := [], harness := (true, "0cea2f5bff4c048c5889141a0b915932c8f009f5f2c3838cc28c67d4c222624a"), looks := true }, kinds := [], alts := [], laidByText := true, laidKinds := [.data, .data, .data, .sentinel, .sentinel, .listed, .data], laidTests := true, laidLooks := .later }
def InstApartUptoCardSaid : Prop := Claim7.holds Tryd.pinned (.plain (OpenSpec.upto instApartSpec)) instApartUptoCard

/-- THE SECOND FORM's CARD OF 'binnaclelaw02.InstRegisters'. -/
def instRegistersUptoCard : Claim7 := { stood := { row := instRegistersUptoRow, standIns := [], harness := (true, "0cea2f5bff4c048c5889141a0b915932c8f009f5f2c3838cc28c67d4c222624a"), looks := true }, kinds := [], alts := [], laidByText := true, laidKinds := [.data, .data, .data, .sentinel, .sentinel, .listed, .data], laidTests := true, laidLooks := .later }
def InstRegistersUptoCardSaid : Prop := Claim7.holds Tryd.pinned (.plain (OpenSpec.upto instRegistersSpec)) instRegistersUptoCard
end Rows
end Go.Proofs.YtidammkjfdonaaaDoor
