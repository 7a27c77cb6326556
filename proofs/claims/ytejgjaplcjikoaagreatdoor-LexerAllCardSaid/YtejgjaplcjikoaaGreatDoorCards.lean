/-
  DERIVED. GIVEN WITH THE SEED: THE CARDS: each row of YtejgjaplcjikoaaGreatDoorRows.lean that lists a variable, with what it lists TIED to the program's text (the seventh form; the later family's looks); each row that meets fmt, with fmt's text TOLD by the authors' own Lean function (tested against real Go, not proved from fmt's source: count such statements apart). THE CARD IS WHAT COUNTS. Prove the row's statement (the work); the ties are given (YtejgjaplcjikoaaGreatDoorTie.lean); close each card by the builder's one call (the guide's Derived/Test/ToyasCard.lean, 'card_holds'). Laid BY PROGRAM, IN A SANDBOX (cutbox-door.mjs). By AI agents, Wed Nov 11 2026. No macro, syntax, notation, axiom, sorry.
-/
import Derived.Test.YtejgjaplcjikoaaGreatDoorRows
import GoSem.ClaimSeven
namespace Go.Proofs.YtejgjaplcjikoaaGreatDoor
namespace Rows

/-- THE TIED CARD OF 'hoardinglaw11.LexerAll'. -/
def lexerAllCard : Claim7 := { stood := { row := lexerAllRow, standIns := [], harness := (true, "8b008159a4c7030df11bb69255bd695990d00a01b2ea8f3261c57d0591500d92"), looks := false }, kinds := [], alts := [], laidByText := true, laidKinds := [.data, .pinned], laidTests := true, laidLooks := .later }
def LexerAllCardSaid : Prop := Claim7.holds Tryz.pinned (.plain (OpenSpec.ofChange lexerAllSpec)) lexerAllCard

/-- THE SECOND FORM's CARD OF 'hoardinglaw11.LexerAll'. -/
def lexerAllUptoCard : Claim7 := { stood := { row := lexerAllUptoRow, standIns := [], harness := (true, "8b008159a4c7030df11bb69255bd695990d00a01b2ea8f3261c57d0591500d92"), looks := false }, kinds := [], alts := [], laidByText := true, laidKinds := [.data, .pinned], laidTests := true, laidLooks := .later }
def LexerAllUptoCardSaid : Prop := Claim7.holds Tryz.pinned (.plain (OpenSpec.upto lexerAllSpec)) lexerAllUptoCard
end Rows
end Go.Proofs.YtejgjaplcjikoaaGreatDoor
