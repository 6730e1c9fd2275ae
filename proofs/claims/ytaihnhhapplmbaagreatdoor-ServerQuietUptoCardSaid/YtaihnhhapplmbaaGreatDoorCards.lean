/-
  DERIVED. GIVEN WITH THE SEED: THE CARDS: each row of YtaihnhhapplmbaaGreatDoorRows.lean that lists a variable, with what it lists TIED to the program's text (the seventh form; the later family's looks); each row that meets fmt, with fmt's text TOLD by the authors' own Lean function (tested against real Go, not proved from fmt's source: count such statements apart). THE CARD IS WHAT COUNTS. Prove the row's statement (the work); the ties are given (YtaihnhhapplmbaaGreatDoorTie.lean); close each card by the builder's one call (the guide's Derived/Test/ToyasCard.lean, 'card_holds'). Laid BY PROGRAM, IN A SANDBOX (cutbox-door.mjs). By AI agents, Wed Nov 11 2026. No macro, syntax, notation, axiom, sorry.
-/
import Derived.Test.YtaihnhhapplmbaaGreatDoorRows
import GoSem.ClaimSeven
namespace Go.Proofs.YtaihnhhapplmbaaGreatDoor
namespace Rows

/-- THE TIED CARD OF 'penstocklaw08.ServerTakes'. -/
def serverTakesCard : Claim7 := { stood := { row := serverTakesRow, standIns := [], harness := (true, "b79adb30e27f0e948715ee5782eb74e68d904d97c4b2600549a27c42f8192ee9"), looks := true }, kinds := [], alts := [], laidByText := true, laidKinds := [.data, .data, .data, .data, .sentinel, .sentinel, .pinned], laidTests := true, laidLooks := .later }
def ServerTakesCardSaid : Prop := Claim7.holds Tryz.pinned (.plain (OpenSpec.ofChange serverTakesSpec)) serverTakesCard

/-- THE TIED CARD OF 'penstocklaw08.ServerQuiet'. -/
def serverQuietCard : Claim7 := { stood := { row := serverQuietRow, standIns := [], harness := (true, "b79adb30e27f0e948715ee5782eb74e68d904d97c4b2600549a27c42f8192ee9"), looks := true }, kinds := [], alts := [], laidByText := true, laidKinds := [.data, .data, .data, .data, .sentinel, .sentinel, .pinned], laidTests := true, laidLooks := .later }
def ServerQuietCardSaid : Prop := Claim7.holds Tryz.pinned (.plain (OpenSpec.ofChange serverQuietSpec)) serverQuietCard

/-- THE TIED CARD OF 'penstocklaw08.ServerRight'. -/
def serverRightCard : Claim7 := { stood := { row := serverRightRow, standIns := [], harness := (true, "b79adb30e27f0e948715ee5782eb74e68d904d97c4b2600549a27c42f8192ee9"), looks := true }, kinds := [], alts := [], laidByText := true, laidKinds := [.data, .data, .data, .data, .sentinel, .sentinel, .pinned], laidTests := true, laidLooks := .later }
def ServerRightCardSaid : Prop := Claim7.holds Tryz.pinned (.plain (OpenSpec.ofChange serverRightSpec)) serverRightCard

/-- THE TIED CARD OF 'penstocklaw08.ServerOrder'. -/
def serverOrderCard : Claim7 := { stood := { row := serverOrderRow, standIns := [], harness := (true, "b79adb30e27f0e948715ee5782eb74e68d904d97c4b2600549a27c42f8192ee9"), looks := true }, kinds := [], alts := [], laidByText := true, laidKinds := [.data, .data, .data, .data, .sentinel, .sentinel, .pinned], laidTests := true, laidLooks := .later }
def ServerOrderCardSaid : Prop := Claim7.holds Tryz.pinned (.plain (OpenSpec.ofChange serverOrderSpec)) serverOrderCard

/-- THE SECOND FORM's CARD OF 'penstocklaw08.ServerTakes'. -/
def serverTakesUptoCard : Claim7 := { stood := { row := serverTakesUptoRow, standIns := [], harness := (true, "b79adb30e27f0e948715ee5782eb74e68d904d97c4b2600549a27c42f8192ee9"), looks := true }, kinds := [], alts := [], laidByText := true, laidKinds := [.data, .data, .data, .data, .sentinel, .sentinel, .pinned], laidTests := true, laidLooks := .later }
def ServerTakesUptoCardSaid : Prop := Claim7.holds Tryz.pinned (.plain (OpenSpec.upto serverTakesSpec)) serverTakesUptoCard

/-- THE SECOND FORM's CARD OF 'penstocklaw08.ServerQuiet'. -/
def serverQuietUptoCard : Claim7 := { stood := { row := serverQuietUptoRow, standIns := [], harness := (true, "b79adb30e27f0e948715ee5782eb74e68d904d97c4b2600549a27c42f8192ee9"), looks := true }, kinds := [], alts := [], laidByText := true, laidKinds := [.data, .data, .data, .data, .sentinel, .sentinel, .pinned], laidTests := true, laidLooks := .later }
def ServerQuietUptoCardSaid : Prop := Claim7.holds Tryz.pinned (.plain (OpenSpec.upto serverQuietSpec)) serverQuietUptoCard

/-- THE SECOND FORM's CARD OF 'penstocklaw08.ServerRight'. -/
def serverRightUptoCard : Claim7 := { stood := { row := serverRightUptoRow, standIns := [], harness := (true, "b79adb30e27f0e948715ee5782eb74e68d904d97c4b2600549a27c42f8192ee9"), looks := true }, kinds := [], alts := [], laidByText := true, laidKinds := [.data, .data, .data, .data, .sentinel, .sentinel, .pinned], laidTests := true, laidLooks := .later }
def ServerRightUptoCardSaid : Prop := Claim7.holds Tryz.pinned (.plain (OpenSpec.upto serverRightSpec)) serverRightUptoCard

/-- THE SECOND FORM's CARD OF 'penstocklaw08.ServerOrder'. -/
def serverOrderUptoCard : Claim7 := { stood := { row := serverOrderUptoRow, standIns := [], harness := (true, "b79adb30e27f0e948715ee5782eb74e68d904d97c4b2600549a27c42f8192ee9"), looks := true }, kinds := [], alts := [], laidByText := true, laidKinds := [.data, .data, .data, .data, .sentinel, .sentinel, .pinned], laidTests := true, laidLooks := .later }
def ServerOrderUptoCardSaid : Prop := Claim7.holds Tryz.pinned (.plain (OpenSpec.upto serverOrderSpec)) serverOrderUptoCard
end Rows
end Go.Proofs.YtaihnhhapplmbaaGreatDoor
