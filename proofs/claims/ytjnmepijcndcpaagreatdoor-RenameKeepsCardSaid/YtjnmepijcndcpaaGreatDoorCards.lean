/-
  DERIVED. GIVEN WITH THE SEED: THE CARDS: each row of YtjnmepijcndcpaaGreatDoorRows.lean that lists a variable, with what it lists TIED to the program's text (the seventh form; the later family's looks); each row that meets fmt, with fmt's text TOLD by the authors' own Lean function (tested against real Go, not proved from fmt's source: count such statements apart). THE CARD IS WHAT COUNTS. Prove the row's statement (the work); the ties are given (YtjnmepijcndcpaaGreatDoorTie.lean); close each card by the builder's one call (the guide's Derived/Test/ToyasCard.lean, 'card_holds'). Laid BY PROGRAM, IN A SANDBOX (cutbox-door.mjs). By AI agents, Wed Nov 11 2026. No macro, syntax, notation, axiom, sorry.
-/
import Derived.Test.YtjnmepijcndcpaaGreatDoorRows
import GoSem.ClaimSeven
namespace Go.Proofs.YtjnmepijcndcpaaGreatDoor
namespace Rows

/-- THE TIED CARD OF 'hoardinglaw37.RenameKeeps'. -/
def renameKeepsCard : Claim7 := { stood := { row := renameKeepsRow, standIns := [], harness := (true, "9c831a0b18048f692c5cf0fb79f75871ddb1165a511efc03dc12b284f9557895"), looks := false }, kinds := [], alts := [], laidByText := true, laidKinds := [.data, .pinned], laidTests := true, laidLooks := .later }
def RenameKeepsCardSaid : Prop := Claim7.holds Tryz.pinned (.plain (OpenSpec.ofChange renameKeepsSpec)) renameKeepsCard

/-- THE TIED CARD OF 'hoardinglaw37.RenameTwice'. -/
def renameTwiceCard : Claim7 := { stood := { row := renameTwiceRow, standIns := [], harness := (true, "9c831a0b18048f692c5cf0fb79f75871ddb1165a511efc03dc12b284f9557895"), looks := false }, kinds := [], alts := [], laidByText := true, laidKinds := [.data, .pinned], laidTests := true, laidLooks := .later }
def RenameTwiceCardSaid : Prop := Claim7.holds Tryz.pinned (.plain (OpenSpec.ofChange renameTwiceSpec)) renameTwiceCard

/-- THE SECOND FORM's CARD OF 'hoardinglaw37.RenameKeeps'. -/
def renameKeepsUptoCard : Claim7 := { stood := { row := renameKeepsUptoRow, standIns := [], harness := (true, "9c831a0b18048f692c5cf0fb79f75871ddb1165a511efc03dc12b284f9557895"), looks := false }, kinds := [], alts := [], laidByText := true, laidKinds := [.data, .pinned], laidTests := true, laidLooks := .later }
def RenameKeepsUptoCardSaid : Prop := Claim7.holds Tryz.pinned (.plain (OpenSpec.upto renameKeepsSpec)) renameKeepsUptoCard

/-- THE SECOND FORM's CARD OF 'hoardinglaw37.RenameTwice'. -/
def renameTwiceUptoCard : Claim7 := { stood := { row := renameTwiceUptoRow, standIns := [], harness := (true, "9c831a0b18048f692c5cf0fb79f75871ddb1165a511efc03dc12b284f9557895"), looks := false }, kinds := [], alts := [], laidByText := true, laidKinds := [.data, .pinned], laidTests := true, laidLooks := .later }
def RenameTwiceUptoCardSaid : Prop := Claim7.holds Tryz.pinned (.plain (OpenSpec.upto renameTwiceSpec)) renameTwiceUptoCard
end Rows
end Go.Proofs.YtjnmepijcndcpaaGreatDoor
