/-
  DERIVED. GIVEN WITH THE SEED: THE CARDS: each row of YtgggnkinalmmlaaDoorRows.lean that lists a variable, with what it lists TIED to the program's text (the seventh form; the later family's looks); each row that meets fmt, with fmt's text TOLD by the authors' own Lean function (tested against real Go, not proved from fmt's source: count such statements apart). THE CARD IS WHAT COUNTS. Prove the row's statement (the work); the ties are given (YtgggnkinalmmlaaDoorTie.lean); close each card by the builder's one call (the guide's Derived/Test/ToyasCard.lean, 'card_holds'). Laid BY PROGRAM, IN A SANDBOX (cutbox-door.mjs). By AI agents, Wed Nov 11 2026. No macro, syntax, notation, axiom, sorry.
-/
import Derived.Test.YtgggnkinalmmlaaDoorRows
import GoSem.ClaimSeven
namespace Go.Proofs.YtgggnkinalmmlaaDoor
namespace Rows

/-- THE TIED CARD OF 'hoardinglaw31.AddressTells'. -/
def addressTellsCard : Claim7 := { stood := { row := addressTellsRow, standIns := [], harness := (true, "47af495dac866d2ec3928f2af02be5798672b6e98165217c6f212d0c04e461ee"), looks := false }, kinds := [], alts := [], laidByText := true, laidKinds := [.data, .pinned], laidTests := true, laidLooks := .later }
def AddressTellsCardSaid : Prop := Claim7.holds Tryd.pinned (.plain (OpenSpec.ofChange addressTellsSpec)) addressTellsCard

/-- THE TIED CARD OF 'hoardinglaw31.AddressMore'. -/
def addressMoreCard : Claim7 := { stood := { row := addressMoreRow, standIns := [], harness := (true, "47af495dac866d2ec3928f2af02be5798672b6e98165217c6f212d0c04e461ee"), looks := false }, kinds := [], alts := [], laidByText := true, laidKinds := [.data, .pinned], laidTests := true, laidLooks := .later }
def AddressMoreCardSaid : Prop := Claim7.holds Tryd.pinned (.plain (OpenSpec.ofChange addressMoreSpec)) addressMoreCard

/-- THE TIED CARD OF 'hoardinglaw02.UtfDecodes'. -/
def utfDecodesCard : Claim7 := { stood := { row := utfDecodesRow, standIns := [], harness := (true, "47af495dac866d2ec3928f2af02be5798672b6e98165217c6f212d0c04e461ee"), looks := false }, kinds := [], alts := [], laidByText := true, laidKinds := [.data, .pinned], laidTests := true, laidLooks := .later }
def UtfDecodesCardSaid : Prop := Claim7.holds Tryd.pinned (.plain (OpenSpec.ofChange utfDecodesSpec)) utfDecodesCard

/-- THE TIED CARD OF 'hoardinglaw02.UtfEncodes'. -/
def utfEncodesCard : Claim7 := { stood := { row := utfEncodesRow, standIns := [], harness := (true, "47af495dac866d2ec3928f2af02be5798672b6e98165217c6f212d0c04e461ee"), looks := false }, kinds := [], alts := [], laidByText := true, laidKinds := [.data, .pinned], laidTests := true, laidLooks := .later }
def UtfEncodesCardSaid : Prop := Claim7.holds Tryd.pinned (.plain (OpenSpec.ofChange utfEncodesSpec)) utfEncodesCard

/-- THE TIED CARD OF 'hoardinglaw04.CharrefStays'. -/
def charrefStaysCard : Claim7 := { stood := { row := charrefStaysRow, standIns := [], harness := (true, "47af495dac866d2ec3928f2af02be5798672b6e98165217c6f212d0c04e461ee"), looks := false }, kinds := [], alts := [], laidByText := true, laidKinds := [.data, .pinned], laidTests := true, laidLooks := .later }
def CharrefStaysCardSaid : Prop := Claim7.holds Tryd.pinned (.plain (OpenSpec.ofChange charrefStaysSpec)) charrefStaysCard

/-- THE TIED CARD OF 'hoardinglaw02.UtfStays'. -/
def utfStaysCard : Claim7 := { stood := { row := utfStaysRow, standIns := [], harness := (true, "47af495dac866d2ec3928f2af02be5798672b6e98165217c6f212d0c04e461ee"), looks := false }, kinds := [], alts := [], laidByText := true, laidKinds := [.data, .pinned], laidTests := true, laidLooks := .later }
def UtfStaysCardSaid : Prop := Claim7.holds Tryd.pinned (.plain (OpenSpec.ofChange utfStaysSpec)) utfStaysCard

/-- THE TIED CARD OF 'hoardinglaw32.AllowTells'. -/
def allowTellsCard : Claim7 := { stood := { row := allowTellsRow, standIns := [], harness := (true, "47af495dac866d2ec3928f2af02be5798672b6e98165217c6f212d0c04e461ee"), looks := false }, kinds := [], alts := [], laidByText := true, laidKinds := [.data, .pinned], laidTests := true, laidLooks := .later }
def AllowTellsCardSaid : Prop := Claim7.holds Tryd.pinned (.plain (OpenSpec.ofChange allowTellsSpec)) allowTellsCard

/-- THE TIED CARD OF 'hoardinglaw32.AllowAgain'. -/
def allowAgainCard : Claim7 := { stood := { row := allowAgainRow, standIns := [], harness := (true, "47af495dac866d2ec3928f2af02be5798672b6e98165217c6f212d0c04e461ee"), looks := false }, kinds := [], alts := [], laidByText := true, laidKinds := [.data, .pinned], laidTests := true, laidLooks := .later }
def AllowAgainCardSaid : Prop := Claim7.holds Tryd.pinned (.plain (OpenSpec.ofChange allowAgainSpec)) allowAgainCard

/-- THE TIED CARD OF 'hoardinglaw32.AllowMore'. -/
def allowMoreCard : Claim7 := { stood := { row := allowMoreRow, standIns := [], harness := (true, "47af495dac866d2ec3928f2af02be5798672b6e98165217c6f212d0c04e461ee"), looks := false }, kinds := [], alts := [], laidByText := true, laidKinds := [.data, .pinned], laidTests := true, laidLooks := .later }
def AllowMoreCardSaid : Prop := Claim7.holds Tryd.pinned (.plain (OpenSpec.ofChange allowMoreSpec)) allowMoreCard

/-- THE SECOND FORM's CARD OF 'hoardinglaw31.AddressTells'. -/
def addressTellsUptoCard : Claim7 := { stood := { row := addressTellsUptoRow, standIns := [], harness := (true, "47af495dac866d2ec3928f2af02be5798672b6e98165217c6f212d0c04e461ee"), looks := false }, kinds := [], alts := [], laidByText := true, laidKinds := [.data, .pinned], laidTests := true, laidLooks := .later }
def AddressTellsUptoCardSaid : Prop := Claim7.holds Tryd.pinned (.plain (OpenSpec.upto addressTellsSpec)) addressTellsUptoCard

/-- THE SECOND FORM's CARD OF 'hoardinglaw31.AddressMore'. -/
def addressMoreUptoCard : Claim7 := { stood := { row := addressMoreUptoRow, standIns := [], harness := (true, "47af495dac866d2ec3928f2af02be5798672b6e98165217c6f212d0c04e461ee"), looks := false }, kinds := [], alts := [], laidByText := true, laidKinds := [.data, .pinned], laidTests := true, laidLooks := .later }
def AddressMoreUptoCardSaid : Prop := Claim7.holds Tryd.pinned (.plain (OpenSpec.upto addressMoreSpec)) addressMoreUptoCard

/-- THE SECOND FORM's CARD OF 'hoardinglaw02.UtfDecodes'. -/
def utfDecodesUptoCard : Claim7 := { stood := { row := utfDecodesUptoRow, standIns := [], harness := (true, "47af495dac866d2ec3928f2af02be5798672b6e98165217c6f212d0c04e461ee"), looks := false }, kinds := [], alts := [], laidByText := true, laidKinds := [.data, .pinned], laidTests := true, laidLooks := .later }
def UtfDecodesUptoCardSaid : Prop := Claim7.holds Tryd.pinned (.plain (OpenSpec.upto utfDecodesSpec)) utfDecodesUptoCard

/-- THE SECOND FORM's CARD OF 'hoardinglaw02.UtfEncodes'. -/
def utfEncodesUptoCard : Claim7 := { stood := { row := utfEncodesUptoRow, standIns := [], harness := (true, "47af495dac866d2ec3928f2af02be5798672b6e98165217c6f212d0c04e461ee"), looks := false }, kinds := [], alts := [], laidByText := true, laidKinds := [.data, .pinned], laidTests := true, laidLooks := .later }
def UtfEncodesUptoCardSaid : Prop := Claim7.holds Tryd.pinned (.plain (OpenSpec.upto utfEncodesSpec)) utfEncodesUptoCard

/-- THE SECOND FORM's CARD OF 'hoardinglaw04.CharrefStays'. -/
def charrefStaysUptoCard : Claim7 := { stood := { row := charrefStaysUptoRow, standIns := [], harness := (true, "47af495dac866d2ec3928f2af02be5798672b6e98165217c6f212d0c04e461ee"), looks := false }, kinds := [], alts := [], laidByText := true, laidKinds := [.data, .pinned], laidTests := true, laidLooks := .later }
def CharrefStaysUptoCardSaid : Prop := Claim7.holds Tryd.pinned (.plain (OpenSpec.upto charrefStaysSpec)) charrefStaysUptoCard

/-- THE SECOND FORM's CARD OF 'hoardinglaw02.UtfStays'. -/
def utfStaysUptoCard : Claim7 := { stood := { row := utfStaysUptoRow, standIns := [], harness := (true, "47af495dac866d2ec3928f2af02be5798672b6e98165217c6f212d0c04e461ee"), looks := false }, kinds := [], alts := [], laidByText := true, laidKinds := [.data, .pinned], laidTests := true, laidLooks := .later }
def UtfStaysUptoCardSaid : Prop := Claim7.holds Tryd.pinned (.plain (OpenSpec.upto utfStaysSpec)) utfStaysUptoCard

/-- THE SECOND FORM's CARD OF 'hoardinglaw32.AllowTells'. -/
def allowTellsUptoCard : Claim7 := { stood := { row := allowTellsUptoRow, standIns := [], harness := (true, "47af495dac866d2ec3928f2af02be5798672b6e98165217c6f212d0c04e461ee"), looks := false }, kinds := [], alts := [], laidByText := true, laidKinds := [.data, .pinned], laidTests := true, laidLooks := .later }
def AllowTellsUptoCardSaid : Prop := Claim7.holds Tryd.pinned (.plain (OpenSpec.upto allowTellsSpec)) allowTellsUptoCard

/-- THE SECOND FORM's CARD OF 'hoardinglaw32.AllowAgain'. -/
def allowAgainUptoCard : Claim7 := { stood := { row := allowAgainUptoRow, standIns := [], harness := (true, "47af495dac866d2ec3928f2af02be5798672b6e98165217c6f212d0c04e461ee"), looks := false }, kinds := [], alts := [], laidByText := true, laidKinds := [.data, .pinned], laidTests := true, laidLooks := .later }
def AllowAgainUptoCardSaid : Prop := Claim7.holds Tryd.pinned (.plain (OpenSpec.upto allowAgainSpec)) allowAgainUptoCard

/-- THE SECOND FORM's CARD OF 'hoardinglaw32.AllowMore'. -/
def allowMoreUptoCard : Claim7 := { stood := { row := allowMoreUptoRow, standIns := [], harness := (true, "47af495dac866d2ec3928f2af02be5798672b6e98165217c6f212d0c04e461ee"), looks := false }, kinds := [], alts := [], laidByText := true, laidKinds := [.data, .pinned], laidTests := true, laidLooks := .later }
def AllowMoreUptoCardSaid : Prop := Claim7.holds Tryd.pinned (.plain (OpenSpec.upto allowMoreSpec)) allowMoreUptoCard
end Rows
end Go.Proofs.YtgggnkinalmmlaaDoor
