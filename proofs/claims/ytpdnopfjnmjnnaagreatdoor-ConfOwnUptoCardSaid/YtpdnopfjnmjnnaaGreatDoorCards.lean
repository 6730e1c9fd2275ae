/-
  DERIVED. GIVEN WITH THE SEED: THE CARDS: each row of YtpdnopfjnmjnnaaGreatDoorRows.lean that lists a variable, with what it lists TIED to the program's text (the seventh form; the later family's looks); each row that meets fmt, with fmt's text TOLD by the authors' own Lean function (tested against real Go, not proved from fmt's source: count such statements apart). THE CARD IS WHAT COUNTS. Prove the row's statement (the work); the ties are given (YtpdnopfjnmjnnaaGreatDoorTie.lean); close each card by the builder's one call (the guide's Derived/Test/ToyasCard.lean, 'card_holds'). Laid BY PROGRAM, IN A SANDBOX (cutbox-door.mjs). By AI agents, Wed Nov 11 2026. No macro, syntax, notation, axiom, sorry.
-/
import Derived.Test.YtpdnopfjnmjnnaaGreatDoorRows
import GoSem.ClaimSeven
namespace Go.Proofs.YtpdnopfjnmjnnaaGreatDoor
namespace Rows

/-- THE TIED CARD OF 'penstocklaw12.ConfNumbers'. -/
def confNumbersCard : Claim7 := { stood := { row := confNumbersRow, standIns := [], harness := (true, "c5cd66aa30056453f96c7e1535b03434723ffe1042ddfe3b541e0d0f6c8f3ef6"), looks := true }, kinds := [], alts := [], laidByText := true, laidKinds := [.data, .data, .data, .data, .sentinel, .sentinel, .pinned], laidTests := true, laidLooks := .later }
def ConfNumbersCardSaid : Prop := Claim7.holds Tryz.pinned (.plain (OpenSpec.ofChange confNumbersSpec)) confNumbersCard

/-- THE TIED CARD OF 'penstocklaw12.ConfBack'. -/
def confBackCard : Claim7 := { stood := { row := confBackRow, standIns := [], harness := (true, "c5cd66aa30056453f96c7e1535b03434723ffe1042ddfe3b541e0d0f6c8f3ef6"), looks := true }, kinds := [], alts := [], laidByText := true, laidKinds := [.data, .data, .data, .data, .sentinel, .sentinel, .pinned], laidTests := true, laidLooks := .later }
def ConfBackCardSaid : Prop := Claim7.holds Tryz.pinned (.plain (OpenSpec.ofChange confBackSpec)) confBackCard

/-- THE TIED CARD OF 'penstocklaw12.ConfBlanks'. -/
def confBlanksCard : Claim7 := { stood := { row := confBlanksRow, standIns := [], harness := (true, "c5cd66aa30056453f96c7e1535b03434723ffe1042ddfe3b541e0d0f6c8f3ef6"), looks := true }, kinds := [], alts := [], laidByText := true, laidKinds := [.data, .data, .data, .data, .sentinel, .sentinel, .pinned], laidTests := true, laidLooks := .later }
def ConfBlanksCardSaid : Prop := Claim7.holds Tryz.pinned (.plain (OpenSpec.ofChange confBlanksSpec)) confBlanksCard

/-- THE TIED CARD OF 'penstocklaw12.ConfFound'. -/
def confFoundCard : Claim7 := { stood := { row := confFoundRow, standIns := [], harness := (true, "c5cd66aa30056453f96c7e1535b03434723ffe1042ddfe3b541e0d0f6c8f3ef6"), looks := true }, kinds := [], alts := [], laidByText := true, laidKinds := [.data, .data, .data, .data, .sentinel, .sentinel, .pinned], laidTests := true, laidLooks := .later }
def ConfFoundCardSaid : Prop := Claim7.holds Tryz.pinned (.plain (OpenSpec.ofChange confFoundSpec)) confFoundCard

/-- THE TIED CARD OF 'penstocklaw12.ConfOwn'. -/
def confOwnCard : Claim7 := { stood := { row := confOwnRow, standIns := [], harness := (true, "c5cd66aa30056453f96c7e1535b03434723ffe1042ddfe3b541e0d0f6c8f3ef6"), looks := true }, kinds := [], alts := [], laidByText := true, laidKinds := [.data, .data, .data, .data, .sentinel, .sentinel, .pinned], laidTests := true, laidLooks := .later }
def ConfOwnCardSaid : Prop := Claim7.holds Tryz.pinned (.plain (OpenSpec.ofChange confOwnSpec)) confOwnCard

/-- THE TIED CARD OF 'penstocklaw12.ConfUnits'. -/
def confUnitsCard : Claim7 := { stood := { row := confUnitsRow, standIns := [], harness := (true, "c5cd66aa30056453f96c7e1535b03434723ffe1042ddfe3b541e0d0f6c8f3ef6"), looks := true }, kinds := [], alts := [], laidByText := true, laidKinds := [.data, .data, .data, .data, .sentinel, .sentinel, .pinned], laidTests := true, laidLooks := .later }
def ConfUnitsCardSaid : Prop := Claim7.holds Tryz.pinned (.plain (OpenSpec.ofChange confUnitsSpec)) confUnitsCard

/-- THE TIED CARD OF 'penstocklaw12.ConfLevels'. -/
def confLevelsCard : Claim7 := { stood := { row := confLevelsRow, standIns := [], harness := (true, "c5cd66aa30056453f96c7e1535b03434723ffe1042ddfe3b541e0d0f6c8f3ef6"), looks := true }, kinds := [], alts := [], laidByText := true, laidKinds := [.data, .data, .data, .data, .sentinel, .sentinel, .pinned], laidTests := true, laidLooks := .later }
def ConfLevelsCardSaid : Prop := Claim7.holds Tryz.pinned (.plain (OpenSpec.ofChange confLevelsSpec)) confLevelsCard

/-- THE SECOND FORM's CARD OF 'penstocklaw12.ConfNumbers'. -/
def confNumbersUptoCard : Claim7 := { stood := { row := confNumbersUptoRow, standIns := [], harness := (true, "c5cd66aa30056453f96c7e1535b03434723ffe1042ddfe3b541e0d0f6c8f3ef6"), looks := true }, kinds := [], alts := [], laidByText := true, laidKinds := [.data, .data, .data, .data, .sentinel, .sentinel, .pinned], laidTests := true, laidLooks := .later }
def ConfNumbersUptoCardSaid : Prop := Claim7.holds Tryz.pinned (.plain (OpenSpec.upto confNumbersSpec)) confNumbersUptoCard

/-- THE SECOND FORM's CARD OF 'penstocklaw12.ConfBack'. -/
def confBackUptoCard : Claim7 := { stood := { row := confBackUptoRow, standIns := [], harness := (true, "c5cd66aa30056453f96c7e1535b03434723ffe1042ddfe3b541e0d0f6c8f3ef6"), looks := true }, kinds := [], alts := [], laidByText := true, laidKinds := [.data, .data, .data, .data, .sentinel, .sentinel, .pinned], laidTests := true, laidLooks := .later }
def ConfBackUptoCardSaid : Prop := Claim7.holds Tryz.pinned (.plain (OpenSpec.upto confBackSpec)) confBackUptoCard

/-- THE SECOND FORM's CARD OF 'penstocklaw12.ConfBlanks'. -/
def confBlanksUptoCard : Claim7 := { stood := { row := confBlanksUptoRow, standIns := [], harness := (true, "c5cd66aa30056453f96c7e1535b03434723ffe1042ddfe3b541e0d0f6c8f3ef6"), looks := true }, kinds := [], alts := [], laidByText := true, laidKinds := [.data, .data, .data, .data, .sentinel, .sentinel, .pinned], laidTests := true, laidLooks := .later }
def ConfBlanksUptoCardSaid : Prop := Claim7.holds Tryz.pinned (.plain (OpenSpec.upto confBlanksSpec)) confBlanksUptoCard

/-- THE SECOND FORM's CARD OF 'penstocklaw12.ConfFound'. -/
def confFoundUptoCard : Claim7 := { stood := { row := confFoundUptoRow, standIns := [], harness := (true, "c5cd66aa30056453f96c7e1535b03434723ffe1042ddfe3b541e0d0f6c8f3ef6"), looks := true }, kinds := [], alts := [], laidByText := true, laidKinds := [.data, .data, .data, .data, .sentinel, .sentinel, .pinned], laidTests := true, laidLooks := .later }
def ConfFoundUptoCardSaid : Prop := Claim7.holds Tryz.pinned (.plain (OpenSpec.upto confFoundSpec)) confFoundUptoCard

/-- THE SECOND FORM's CARD OF 'penstocklaw12.ConfOwn'. -/
def confOwnUptoCard : Claim7 := { stood := { row := confOwnUptoRow, standIns := [], harness := (true, "c5cd66aa30056453f96c7e1535b03434723ffe1042ddfe3b541e0d0f6c8f3ef6"), looks := true }, kinds := [], alts := [], laidByText := true, laidKinds := [.data, .data, .data, .data, .sentinel, .sentinel, .pinned], laidTests := true, laidLooks := .later }
def ConfOwnUptoCardSaid : Prop := Claim7.holds Tryz.pinned (.plain (OpenSpec.upto confOwnSpec)) confOwnUptoCard

/-- THE SECOND FORM's CARD OF 'penstocklaw12.ConfUnits'. -/
def confUnitsUptoCard : Claim7 := { stood := { row := confUnitsUptoRow, standIns := [], harness := (true, "c5cd66aa30056453f96c7e1535b03434723ffe1042ddfe3b541e0d0f6c8f3ef6"), looks := true }, kinds := [], alts := [], laidByText := true, laidKinds := [.data, .data, .data, .data, .sentinel, .sentinel, .pinned], laidTests := true, laidLooks := .later }
def ConfUnitsUptoCardSaid : Prop := Claim7.holds Tryz.pinned (.plain (OpenSpec.upto confUnitsSpec)) confUnitsUptoCard

/-- THE SECOND FORM's CARD OF 'penstocklaw12.ConfLevels'. -/
def confLevelsUptoCard : Claim7 := { stood := { row := confLevelsUptoRow, standIns := [], harness := (true, "c5cd66aa30056453f96c7e1535b03434723ffe1042ddfe3b541e0d0f6c8f3ef6"), looks := true }, kinds := [], alts := [], laidByText := true, laidKinds := [.data, .data, .data, .data, .sentinel, .sentinel, .pinned], laidTests := true, laidLooks := .later }
def ConfLevelsUptoCardSaid : Prop := Claim7.holds Tryz.pinned (.plain (OpenSpec.upto confLevelsSpec)) confLevelsUptoCard
end Rows
end Go.Proofs.YtpdnopfjnmjnnaaGreatDoor
