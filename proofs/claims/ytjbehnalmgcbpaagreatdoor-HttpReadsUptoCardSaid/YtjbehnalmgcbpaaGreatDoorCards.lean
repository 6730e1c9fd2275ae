/-
  DERIVED. GIVEN WITH THE SEED: THE CARDS: each row of YtjbehnalmgcbpaaGreatDoorRows.lean that lists a variable, with what it lists TIED to the program's text (the seventh form; the later family's looks); each row that meets fmt, with fmt's text TOLD by the authors' own Lean function (tested against real Go, not proved from fmt's source: count such statements apart). THE CARD IS WHAT COUNTS. Prove the row's statement (the work); the ties are given (YtjbehnalmgcbpaaGreatDoorTie.lean); close each card by the builder's one call (the guide's Derived/Test/ToyasCard.lean, 'card_holds'). Laid BY PROGRAM, IN A SANDBOX (cutbox-door.mjs). By AI agents, Wed Nov 11 2026. No macro, syntax, notation, axiom, sorry.
-/
import Derived.Test.YtjbehnalmgcbpaaGreatDoorRows
import GoSem.ClaimSeven
namespace Go.Proofs.YtjbehnalmgcbpaaGreatDoor
namespace Rows

/-- THE TIED CARD OF 'penstocklaw07.HttpBits'. -/
def httpBitsCard : Claim7 := { stood := { row := httpBitsRow, standIns := [], harness := (true, "8d06c0ed9faf162c4c99f80bad6b12549b4b26b0b13e5b5033cbd414fa375df5"), looks := true }, kinds := [], alts := [], laidByText := true, laidKinds := [.data, .data, .data, .data, .sentinel, .sentinel, .pinned], laidTests := true, laidLooks := .later }
def HttpBitsCardSaid : Prop := Claim7.holds Tryz.pinned (.plain (OpenSpec.ofChange httpBitsSpec)) httpBitsCard

/-- THE TIED CARD OF 'penstocklaw07.HttpChunks'. -/
def httpChunksCard : Claim7 := { stood := { row := httpChunksRow, standIns := [], harness := (true, "8d06c0ed9faf162c4c99f80bad6b12549b4b26b0b13e5b5033cbd414fa375df5"), looks := true }, kinds := [], alts := [], laidByText := true, laidKinds := [.data, .data, .data, .data, .sentinel, .sentinel, .pinned], laidTests := true, laidLooks := .later }
def HttpChunksCardSaid : Prop := Claim7.holds Tryz.pinned (.plain (OpenSpec.ofChange httpChunksSpec)) httpChunksCard

/-- THE TIED CARD OF 'penstocklaw07.HttpWrites'. -/
def httpWritesCard : Claim7 := { stood := { row := httpWritesRow, standIns := [], harness := (true, "8d06c0ed9faf162c4c99f80bad6b12549b4b26b0b13e5b5033cbd414fa375df5"), looks := true }, kinds := [], alts := [], laidByText := true, laidKinds := [.data, .data, .data, .data, .sentinel, .sentinel, .pinned], laidTests := true, laidLooks := .later }
def HttpWritesCardSaid : Prop := Claim7.holds Tryz.pinned (.plain (OpenSpec.ofChange httpWritesSpec)) httpWritesCard

/-- THE TIED CARD OF 'penstocklaw07.HttpMost'. -/
def httpMostCard : Claim7 := { stood := { row := httpMostRow, standIns := [], harness := (true, "8d06c0ed9faf162c4c99f80bad6b12549b4b26b0b13e5b5033cbd414fa375df5"), looks := true }, kinds := [], alts := [], laidByText := true, laidKinds := [.data, .data, .data, .data, .sentinel, .sentinel, .pinned], laidTests := true, laidLooks := .later }
def HttpMostCardSaid : Prop := Claim7.holds Tryz.pinned (.plain (OpenSpec.ofChange httpMostSpec)) httpMostCard

/-- THE TIED CARD OF 'penstocklaw07.HttpFinds'. -/
def httpFindsCard : Claim7 := { stood := { row := httpFindsRow, standIns := [], harness := (true, "8d06c0ed9faf162c4c99f80bad6b12549b4b26b0b13e5b5033cbd414fa375df5"), looks := true }, kinds := [], alts := [], laidByText := true, laidKinds := [.data, .data, .data, .data, .sentinel, .sentinel, .pinned], laidTests := true, laidLooks := .later }
def HttpFindsCardSaid : Prop := Claim7.holds Tryz.pinned (.plain (OpenSpec.ofChange httpFindsSpec)) httpFindsCard

/-- THE TIED CARD OF 'penstocklaw07.HttpReads'. -/
def httpReadsCard : Claim7 := { stood := { row := httpReadsRow, standIns := [], harness := (true, "8d06c0ed9faf162c4c99f80bad6b12549b4b26b0b13e5b5033cbd414fa375df5"), looks := true }, kinds := [], alts := [], laidByText := true, laidKinds := [.data, .data, .data, .data, .sentinel, .sentinel, .pinned], laidTests := true, laidLooks := .later }
def HttpReadsCardSaid : Prop := Claim7.holds Tryz.pinned (.plain (OpenSpec.ofChange httpReadsSpec)) httpReadsCard

/-- THE TIED CARD OF 'penstocklaw07.HttpBack'. -/
def httpBackCard : Claim7 := { stood := { row := httpBackRow, standIns := [], harness := (true, "8d06c0ed9faf162c4c99f80bad6b12549b4b26b0b13e5b5033cbd414fa375df5"), looks := true }, kinds := [], alts := [], laidByText := true, laidKinds := [.data, .data, .data, .data, .sentinel, .sentinel, .pinned], laidTests := true, laidLooks := .later }
def HttpBackCardSaid : Prop := Claim7.holds Tryz.pinned (.plain (OpenSpec.ofChange httpBackSpec)) httpBackCard

/-- THE SECOND FORM's CARD OF 'penstocklaw07.HttpBits'. -/
def httpBitsUptoCard : Claim7 := { stood := { row := httpBitsUptoRow, standIns := [], harness := (true, "8d06c0ed9faf162c4c99f80bad6b12549b4b26b0b13e5b5033cbd414fa375df5"), looks := true }, kinds := [], alts := [], laidByText := true, laidKinds := [.data, .data, .data, .data, .sentinel, .sentinel, .pinned], laidTests := true, laidLooks := .later }
def HttpBitsUptoCardSaid : Prop := Claim7.holds Tryz.pinned (.plain (OpenSpec.upto httpBitsSpec)) httpBitsUptoCard

/-- THE SECOND FORM's CARD OF 'penstocklaw07.HttpChunks'. -/
def httpChunksUptoCard : Claim7 := { stood := { row := httpChunksUptoRow, standIns := [], harness := (true, "8d06c0ed9faf162c4c99f80bad6b12549b4b26b0b13e5b5033cbd414fa375df5"), looks := true }, kinds := [], alts := [], laidByText := true, laidKinds := [.data, .data, .data, .data, .sentinel, .sentinel, .pinned], laidTests := true, laidLooks := .later }
def HttpChunksUptoCardSaid : Prop := Claim7.holds Tryz.pinned (.plain (OpenSpec.upto httpChunksSpec)) httpChunksUptoCard

/-- THE SECOND FORM's CARD OF 'penstocklaw07.HttpWrites'. -/
def httpWritesUptoCard : Claim7 := { stood := { row := httpWritesUptoRow, standIns := [], harness := (true, "8d06c0ed9faf162c4c99f80bad6b12549b4b26b0b13e5b5033cbd414fa375df5"), looks := true }, kinds := [], alts := [], laidByText := true, laidKinds := [.data, .data, .data, .data, .sentinel, .sentinel, .pinned], laidTests := true, laidLooks := .later }
def HttpWritesUptoCardSaid : Prop := Claim7.holds Tryz.pinned (.plain (OpenSpec.upto httpWritesSpec)) httpWritesUptoCard

/-- THE SECOND FORM's CARD OF 'penstocklaw07.HttpMost'. -/
def httpMostUptoCard : Claim7 := { stood := { row := httpMostUptoRow, standIns := [], harness := (true, "8d06c0ed9faf162c4c99f80bad6b12549b4b26b0b13e5b5033cbd414fa375df5"), looks := true }, kinds := [], alts := [], laidByText := true, laidKinds := [.data, .data, .data, .data, .sentinel, .sentinel, .pinned], laidTests := true, laidLooks := .later }
def HttpMostUptoCardSaid : Prop := Claim7.holds Tryz.pinned (.plain (OpenSpec.upto httpMostSpec)) httpMostUptoCard

/-- THE SECOND FORM's CARD OF 'penstocklaw07.HttpFinds'. -/
def httpFindsUptoCard : Claim7 := { stood := { row := httpFindsUptoRow, standIns := [], harness := (true, "8d06c0ed9faf162c4c99f80bad6b12549b4b26b0b13e5b5033cbd414fa375df5"), looks := true }, kinds := [], alts := [], laidByText := true, laidKinds := [.data, .data, .data, .data, .sentinel, .sentinel, .pinned], laidTests := true, laidLooks := .later }
def HttpFindsUptoCardSaid : Prop := Claim7.holds Tryz.pinned (.plain (OpenSpec.upto httpFindsSpec)) httpFindsUptoCard

/-- THE SECOND FORM's CARD OF 'penstocklaw07.HttpReads'. -/
def httpReadsUptoCard : Claim7 := { stood := { row := httpReadsUptoRow, standIns := [], harness := (true, "8d06c0ed9faf162c4c99f80bad6b12549b4b26b0b13e5b5033cbd414fa375df5"), looks := true }, kinds := [], alts := [], laidByText := true, laidKinds := [.data, .data, .data, .data, .sentinel, .sentinel, .pinned], laidTests := true, laidLooks := .later }
def HttpReadsUptoCardSaid : Prop := Claim7.holds Tryz.pinned (.plain (OpenSpec.upto httpReadsSpec)) httpReadsUptoCard

/-- THE SECOND FORM's CARD OF 'penstocklaw07.HttpBack'. -/
def httpBackUptoCard : Claim7 := { stood := { row := httpBackUptoRow, standIns := [], harness := (true, "8d06c0ed9faf162c4c99f80bad6b12549b4b26b0b13e5b5033cbd414fa375df5"), looks := true }, kinds := [], alts := [], laidByText := true, laidKinds := [.data, .data, .data, .data, .sentinel, .sentinel, .pinned], laidTests := true, laidLooks := .later }
def HttpBackUptoCardSaid : Prop := Claim7.holds Tryz.pinned (.plain (OpenSpec.upto httpBackSpec)) httpBackUptoCard
end Rows
end Go.Proofs.YtjbehnalmgcbpaaGreatDoor
