/-
  DERIVED. GIVEN WITH THE SEED: THE CARDS: each row of YtecdihmimpcgbaaDoorRows.lean that lists a variable, with what it lists TIED to the program's text (the seventh form; the later family's looks); each row that meets fmt, with fmt's text TOLD by the authors' own Lean function (tested against real Go, not proved from fmt's source: count such statements apart). THE CARD IS WHAT COUNTS. Prove the row's statement (the work); the ties are given (YtecdihmimpcgbaaDoorTie.lean); close each card by the builder's one call (the guide's Derived/Test/ToyasCard.lean, 'card_holds'). Laid BY PROGRAM, IN A SANDBOX (cutbox-door.mjs). By AI agents, Wed Nov 11 2026. No macro, syntax, notation, axiom, sorry.
-/
import Derived.Test.YtecdihmimpcgbaaDoorRows
import GoSem.ClaimSeven
namespace Go.Proofs.YtecdihmimpcgbaaDoor
namespace Rows

/-- THE TIED CARD OF 'hoardinglaw01.AsciiTells'. -/
def asciiTellsCard : Claim7 := { stood := { row := asciiTellsRow, standIns := [], harness := (true, "56834faafee80a888ddd8933be2d5935f7e9664c3269558d80b7cec7c886afef"), looks := false }, kinds := [], alts := [], laidByText := true, laidKinds := [.data, .pinned], laidTests := true, laidLooks := .later }
def AsciiTellsCardSaid : Prop := Claim7.holds Tryd.pinned (.plain (OpenSpec.ofChange asciiTellsSpec)) asciiTellsCard

/-- THE TIED CARD OF 'hoardinglaw01.AsciiKeeps'. -/
def asciiKeepsCard : Claim7 := { stood := { row := asciiKeepsRow, standIns := [], harness := (true, "56834faafee80a888ddd8933be2d5935f7e9664c3269558d80b7cec7c886afef"), looks := false }, kinds := [], alts := [], laidByText := true, laidKinds := [.data, .pinned], laidTests := true, laidLooks := .later }
def AsciiKeepsCardSaid : Prop := Claim7.holds Tryd.pinned (.plain (OpenSpec.ofChange asciiKeepsSpec)) asciiKeepsCard

/-- THE TIED CARD OF 'hoardinglaw09.RemarkReads'. -/
def remarkReadsCard : Claim7 := { stood := { row := remarkReadsRow, standIns := [], harness := (true, "56834faafee80a888ddd8933be2d5935f7e9664c3269558d80b7cec7c886afef"), looks := false }, kinds := [], alts := [], laidByText := true, laidKinds := [.data, .pinned], laidTests := true, laidLooks := .later }
def RemarkReadsCardSaid : Prop := Claim7.holds Tryd.pinned (.plain (OpenSpec.ofChange remarkReadsSpec)) remarkReadsCard

/-- THE TIED CARD OF 'hoardinglaw09.RemarkStops'. -/
def remarkStopsCard : Claim7 := { stood := { row := remarkStopsRow, standIns := [], harness := (true, "56834faafee80a888ddd8933be2d5935f7e9664c3269558d80b7cec7c886afef"), looks := false }, kinds := [], alts := [], laidByText := true, laidKinds := [.data, .pinned], laidTests := true, laidLooks := .later }
def RemarkStopsCardSaid : Prop := Claim7.holds Tryd.pinned (.plain (OpenSpec.ofChange remarkStopsSpec)) remarkStopsCard

/-- THE TIED CARD OF 'hoardinglaw09.RemarkBack'. -/
def remarkBackCard : Claim7 := { stood := { row := remarkBackRow, standIns := [], harness := (true, "56834faafee80a888ddd8933be2d5935f7e9664c3269558d80b7cec7c886afef"), looks := false }, kinds := [], alts := [], laidByText := true, laidKinds := [.data, .pinned], laidTests := true, laidLooks := .later }
def RemarkBackCardSaid : Prop := Claim7.holds Tryd.pinned (.plain (OpenSpec.ofChange remarkBackSpec)) remarkBackCard

/-- THE SECOND FORM's CARD OF 'hoardinglaw01.AsciiTells'. -/
def asciiTellsUptoCard : Claim7 := { stood := { row := asciiTellsUptoRow, standIns := [], harness := (true, "56834faafee80a888ddd8933be2d5935f7e9664c3269558d80b7cec7c886afef"), looks := false }, kinds := [], alts := [], laidByText := true, laidKinds := [.data, .pinned], laidTests := true, laidLooks := .later }
def AsciiTellsUptoCardSaid : Prop := Claim7.holds Tryd.pinned (.plain (OpenSpec.upto asciiTellsSpec)) asciiTellsUptoCard

/-- THE SECOND FORM's CARD OF 'hoardinglaw01.AsciiKeeps'. -/
def asciiKeepsUptoCard : Claim7 := { stood := { row := asciiKeepsUptoRow, standIns := [], harness := (true, "56834faafee80a888ddd8933be2d5935f7e9664c3269558d80b7cec7c886afef"), looks := false }, kinds := [], alts := [], laidByText := true, laidKinds := [.data, .pinned], laidTests := true, laidLooks := .later }
def AsciiKeepsUptoCardSaid : Prop := Claim7.holds Tryd.pinned (.plain (OpenSpec.upto asciiKeepsSpec)) asciiKeepsUptoCard

/-- THE SECOND FORM's CARD OF 'hoardinglaw09.RemarkReads'. -/
def remarkReadsUptoCard : Claim7 := { stood := { row := remarkReadsUptoRow, standIns := [], harness := (true, "56834faafee80a888ddd8933be2d5935f7e9664c3269558d80b7cec7c886afef"), looks := false }, kinds := [], alts := [], laidByText := true, laidKinds := [.data, .pinned], laidTests := true, laidLooks := .later }
def RemarkReadsUptoCardSaid : Prop := Claim7.holds Tryd.pinned (.plain (OpenSpec.upto remarkReadsSpec)) remarkReadsUptoCard

/-- THE SECOND FORM's CARD OF 'hoardinglaw09.RemarkStops'. -/
def remarkStopsUptoCard : Claim7 := { stood := { row := remarkStopsUptoRow, standIns := [], harness := (true, "56834faafee80a888ddd8933be2d5935f7e9664c3269558d80b7cec7c886afef"), looks := false }, kinds := [], alts := [], laidByText := true, laidKinds := [.data, .pinned], laidTests := true, laidLooks := .later }
def RemarkStopsUptoCardSaid : Prop := Claim7.holds Tryd.pinned (.plain (OpenSpec.upto remarkStopsSpec)) remarkStopsUptoCard

/-- THE SECOND FORM's CARD OF 'hoardinglaw09.RemarkBack'. -/
def remarkBackUptoCard : Claim7 := { stood := { row := remarkBackUptoRow, standIns := [], harness := (true, "56834faafee80a888ddd8933be2d5935f7e9664c3269558d80b7cec7c886afef"), looks := false }, kinds := [], alts := [], laidByText := true, laidKinds := [.data, .pinned], laidTests := true, laidLooks := .later }
def RemarkBackUptoCardSaid : Prop := Claim7.holds Tryd.pinned (.plain (OpenSpec.upto remarkBackSpec)) remarkBackUptoCard
end Rows
end Go.Proofs.YtecdihmimpcgbaaDoor
