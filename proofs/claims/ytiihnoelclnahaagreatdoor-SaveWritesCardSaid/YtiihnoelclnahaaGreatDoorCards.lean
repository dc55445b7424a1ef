/-
  DERIVED. GIVEN WITH THE SEED: THE CARDS: each row of YtiihnoelclnahaaGreatDoorRows.lean that lists a variable, with what it lists TIED to the program's text (the seventh form; the later family's looks); each row that meets fmt, with fmt's text TOLD by the authors' own Lean function (tested against real Go, not proved from fmt's source: count such statements apart). THE CARD IS WHAT COUNTS. Prove the row's statement (the work); the ties are given (YtiihnoelclnahaaGreatDoorTie.lean); close each card by the builder's one call (the guide's Derived/Test/ToyasCard.lean, 'card_holds'). Laid BY PROGRAM, IN A SANDBOX (cutbox-door.mjs). By AI agents, Wed Nov 11 2026. No macro, syntax, notation, axiom, sorry.
-/
import Derived.Test.YtiihnoelclnahaaGreatDoorRows
import GoSem.ClaimSeven
namespace Go.Proofs.YtiihnoelclnahaaGreatDoor
namespace Rows

/-- THE TIED CARD OF 'parquetlaw28.SaveWrites'. -/
def saveWritesCard : Claim7 := { stood := { row := saveWritesRow, standIns := [], harness := (true, "61c0d55d9fce0b2c1423911e0ac100d3bdec4b9e83ef27a6d803b0f83a0fb96c"), looks := true }, kinds := [], alts := [], laidByText := true, laidKinds := [.data, .data, .data, .handle, .sentinel, .sentinel], laidTests := true, laidLooks := .later }
def SaveWritesCardSaid : Prop := Claim7.holds Tryz.pinned (.plain (OpenSpec.ofChange saveWritesSpec)) saveWritesCard

/-- THE TIED CARD OF 'parquetlaw28.SaveBack'. -/
def saveBackCard : Claim7 := { stood := { row := saveBackRow, standIns := [], harness := (true, "61c0d55d9fce0b2c1423911e0ac100d3bdec4b9e83ef27a6d803b0f83a0fb96c"), looks := true }, kinds := [], alts := [], laidByText := true, laidKinds := [.data, .data, .data, .handle, .sentinel, .sentinel], laidTests := true, laidLooks := .later }
def SaveBackCardSaid : Prop := Claim7.holds Tryz.pinned (.plain (OpenSpec.ofChange saveBackSpec)) saveBackCard

/-- THE TIED CARD OF 'parquetlaw28.SaveKnown'. -/
def saveKnownCard : Claim7 := { stood := { row := saveKnownRow, standIns := [], harness := (true, "61c0d55d9fce0b2c1423911e0ac100d3bdec4b9e83ef27a6d803b0f83a0fb96c"), looks := true }, kinds := [], alts := [], laidByText := true, laidKinds := [.data, .data, .data, .handle, .sentinel, .sentinel], laidTests := true, laidLooks := .later }
def SaveKnownCardSaid : Prop := Claim7.holds Tryz.pinned (.plain (OpenSpec.ofChange saveKnownSpec)) saveKnownCard

/-- THE SECOND FORM's CARD OF 'parquetlaw28.SaveWrites'. -/
def saveWritesUptoCard : Claim7 := { stood := { row := saveWritesUptoRow, standIns := [], harness := (true, "61c0d55d9fce0b2c1423911e0ac100d3bdec4b9e83ef27a6d803b0f83a0fb96c"), looks := true }, kinds := [], alts := [], laidByText := true, laidKinds := [.data, .data, .data, .handle, .sentinel, .sentinel], laidTests := true, laidLooks := .later }
def SaveWritesUptoCardSaid : Prop := Claim7.holds Tryz.pinned (.plain (OpenSpec.upto saveWritesSpec)) saveWritesUptoCard

/-- THE SECOND FORM's CARD OF 'parquetlaw28.SaveBack'. -/
def saveBackUptoCard : Claim7 := { stood := { row := saveBackUptoRow, standIns := [], harness := (true, "61c0d55d9fce0b2c1423911e0ac100d3bdec4b9e83ef27a6d803b0f83a0fb96c"), looks := true }, kinds := [], alts := [], laidByText := true, laidKinds := [.data, .data, .data, .handle, .sentinel, .sentinel], laidTests := true, laidLooks := .later }
def SaveBackUptoCardSaid : Prop := Claim7.holds Tryz.pinned (.plain (OpenSpec.upto saveBackSpec)) saveBackUptoCard

/-- THE SECOND FORM's CARD OF 'parquetlaw28.SaveKnown'. -/
def saveKnownUptoCard : Claim7 := { stood := { row := saveKnownUptoRow, standIns := [], harness := (true, "61c0d55d9fce0b2c1423911e0ac100d3bdec4b9e83ef27a6d803b0f83a0fb96c"), looks := true }, kinds := [], alts := [], laidByText := true, laidKinds := [.data, .data, .data, .handle, .sentinel, .sentinel], laidTests := true, laidLooks := .later }
def SaveKnownUptoCardSaid : Prop := Claim7.holds Tryz.pinned (.plain (OpenSpec.upto saveKnownSpec)) saveKnownUptoCard
end Rows
end Go.Proofs.YtiihnoelclnahaaGreatDoor
