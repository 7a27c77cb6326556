/-
  NARROWER THAN 'FOR EVERY INPUT', by the rows' own cells (each row's printed sentence says how): AddressTells: laid · AddressMore: laid · UtfDecodes: laid · UtfEncodes: laid · CharrefStays: laid · UtfStays: laid · AllowTells: laid · AllowAgain: laid · AllowMore: laid.
  DERIVED. THE GIVEN ROWS OF THIS SEAT. 9 by the template 'for every input the law returns true; each argument reads behind the call as it read before'; 0 by the template 'total and deterministic' (their statements: YtgggnkinalmmlaaDoorTotals.lean).
  GIVEN WITH THE SEED: the statements are not yours to turn. If you find one false, say at which input.
  Laid BY PROGRAM, IN A SANDBOX (cutbox-rows.mjs): the forced cells as the released guide's own fill.sh prints them over the translation 072f9a71408cc73c… (all of the seat's roots in one cut). By AI agents, Wed Nov 11 2026. No macro, syntax, notation, axiom, sorry.
-/
import Derived.Test.YtgggnkinalmmlaaDoorChecked
import GoSem.PinnedTables
import GoSem.Claim
import GoSem.ClaimJoined
import GoSem.ClaimMapViews
import Derived.JoinedTies
import Derived.KernelRfl
namespace Go.Proofs.YtgggnkinalmmlaaDoor
/- THE CELL 'sum', in the pinned program and in every row, IS THE sha256 OF THE DUMP (.gsa) THAT YtgggnkinalmmlaaDoorProg.lean LOADS. Nothing in Lean hashes anything: it is a label: what it is worth is what the hold of that sum in a sandbox is worth. -/
noncomputable def Tryd.pinned : Pinned := { name := "ytgggnkinalmmlaadoor", sum := "072f9a71408cc73c28e328066a88995f37724cf362cbbc72016e57973c52eb37", checked := Tryd.checked }
namespace Rows
def none {H : Type} : Left H := { results := [], args := [] }

/- WHAT THE LISTED PACKAGE-LEVEL VARIABLES READ AS WHEN THE CALL BEGINS. Each datum BY PROGRAM (the guide's laid-datum.mjs) off the statement by which the dump's own 'gosem.cut.vars' lays the variable. In a bare row this is a premise. The card (YtgggnkinalmmlaaDoorCards.lean) ties it to the program's text. -/
def laid_unicode_utf8_acceptRanges {H : Type} : DataW H := .agg [.agg [.lit (.int .u8 128), .lit (.int .u8 191)], .agg [.lit (.int .u8 160), .lit (.int .u8 191)], .agg [.lit (.int .u8 128), .lit (.int .u8 159)], .agg [.lit (.int .u8 144), .lit (.int .u8 191)], .agg [.lit (.int .u8 128), .lit (.int .u8 143)], .agg [.lit (.int .u8 0), .lit (.int .u8 0)], .agg [.lit (.int .u8 0), .lit (.int .u8 0)], .agg [.lit (.int .u8 0), .lit (.int .u8 0)], .agg [.lit (.int .u8 0), .lit (.int .u8 0)], .agg [.lit (.int .u8 0), .lit (.int .u8 0)], .agg [.lit (.int .u8 0), .lit (.int .u8 0)], .agg [.lit (.int .u8 0), .lit (.int .u8 0)], .agg [.lit (.int .u8 0), .lit (.int .u8 0)], .agg [.lit (.int .u8 0), .lit (.int .u8 0)], .agg [.lit (.int .u8 0), .lit (.int .u8 0)], .agg [.lit (.int .u8 0), .lit (.int .u8 0)]]
/-- One of Go's own tables, pinned by name: the form's constant. -/
def laid_unicode_utf8_first : DataW Unit := Go.Pinned.utf8First

/-- 'hoardinglaw31.AddressTells': WHATEVER THE INPUT: true; the input reads as it did. -/
def addressTellsSpec : ChangeSpec := { name := "addressTells", fn := fun _ => fun
  | [d1, d2] => { results := [.lit (.bool true)], args := [d1, d2] }
  | _ => none }
def addressTellsRow : OpenClaim := { program := "ytgggnkinalmmlaadoor", sum := "072f9a71408cc73c28e328066a88995f37724cf362cbbc72016e57973c52eb37", func := "hoarding/hoardinglaw31.AddressTells", spec := "addressTells", inPlace := ["internal/bytealg.IndexByteString", "internal/bytealg.IndexString"], unfollowed := true, recurses := true, named := ["unicode/utf8.first", "unicode/utf8.acceptRanges", "internal/bytealg.MaxLen"], apart := false, laid := [("unicode/utf8.acceptRanges", laid_unicode_utf8_acceptRanges), ("unicode/utf8.first", laid_unicode_utf8_first)] }
def AddressTellsSaid : Prop := addressTellsRow.holds Tryd.pinned (OpenSpec.ofChange addressTellsSpec)

/-- ITS FALSE NEIGHBOUR: 'it returns false'. Refute it at one input. -/
def addressTellsWrong : ChangeSpec := { name := "addressTells", fn := fun _ => fun
  | [d1, d2] => { results := [.lit (.bool false)], args := [d1, d2] }
  | _ => none }
def AddressTellsWrongFalsely : Prop := addressTellsRow.holds Tryd.pinned (OpenSpec.ofChange addressTellsWrong)

/-- 'hoardinglaw31.AddressMore': WHATEVER THE INPUT: true; the input reads as it did. -/
def addressMoreSpec : ChangeSpec := { name := "addressMore", fn := fun _ => fun
  | [d1, d2, d3] => { results := [.lit (.bool true)], args := [d1, d2, d3] }
  | _ => none }
def addressMoreRow : OpenClaim := { program := "ytgggnkinalmmlaadoor", sum := "072f9a71408cc73c28e328066a88995f37724cf362cbbc72016e57973c52eb37", func := "hoarding/hoardinglaw31.AddressMore", spec := "addressMore", inPlace := ["internal/bytealg.IndexByteString", "internal/bytealg.IndexString"], unfollowed := true, recurses := true, named := ["unicode/utf8.first", "unicode/utf8.acceptRanges", "internal/bytealg.MaxLen"], apart := false, laid := [("unicode/utf8.acceptRanges", laid_unicode_utf8_acceptRanges), ("unicode/utf8.first", laid_unicode_utf8_first)] }
def AddressMoreSaid : Prop := addressMoreRow.holds Tryd.pinned (OpenSpec.ofChange addressMoreSpec)

/-- ITS FALSE NEIGHBOUR: 'it returns false'. Refute it at one input. -/
def addressMoreWrong : ChangeSpec := { name := "addressMore", fn := fun _ => fun
  | [d1, d2, d3] => { results := [.lit (.bool false)], args := [d1, d2, d3] }
  | _ => none }
def AddressMoreWrongFalsely : Prop := addressMoreRow.holds Tryd.pinned (OpenSpec.ofChange addressMoreWrong)

/-- 'hoardinglaw02.UtfDecodes': WHATEVER THE INPUT: true; the input reads as it did. -/
def utfDecodesSpec : ChangeSpec := { name := "utfDecodes", fn := fun _ => fun
  | [d] => { results := [.lit (.bool true)], args := [d] }
  | _ => none }
def utfDecodesRow : OpenClaim := { program := "ytgggnkinalmmlaadoor", sum := "072f9a71408cc73c28e328066a88995f37724cf362cbbc72016e57973c52eb37", func := "hoarding/hoardinglaw02.UtfDecodes", spec := "utfDecodes", inPlace := ["internal/abi.NoEscape", "internal/bytealg.IndexByteString", "internal/bytealg.IndexString"], named := ["unicode/utf8.first", "unicode/utf8.acceptRanges", "internal/bytealg.MaxLen"], apart := false, laid := [("unicode/utf8.acceptRanges", laid_unicode_utf8_acceptRanges), ("unicode/utf8.first", laid_unicode_utf8_first)] }
def UtfDecodesSaid : Prop := utfDecodesRow.holds Tryd.pinned (OpenSpec.ofChange utfDecodesSpec)

/-- ITS FALSE NEIGHBOUR: 'it returns false'. Refute it at one input. -/
def utfDecodesWrong : ChangeSpec := { name := "utfDecodes", fn := fun _ => fun
  | [d] => { results := [.lit (.bool false)], args := [d] }
  | _ => none }
def UtfDecodesWrongFalsely : Prop := utfDecodesRow.holds Tryd.pinned (OpenSpec.ofChange utfDecodesWrong)

/-- 'hoardinglaw02.UtfEncodes': WHATEVER THE INPUT: true; the input reads as it did. -/
def utfEncodesSpec : ChangeSpec := { name := "utfEncodes", fn := fun _ => fun
  | [d] => { results := [.lit (.bool true)], args := [d] }
  | _ => none }
def utfEncodesRow : OpenClaim := { program := "ytgggnkinalmmlaadoor", sum := "072f9a71408cc73c28e328066a88995f37724cf362cbbc72016e57973c52eb37", func := "hoarding/hoardinglaw02.UtfEncodes", spec := "utfEncodes", inPlace := ["internal/bytealg.IndexByteString", "internal/bytealg.IndexString", "internal/abi.NoEscape"], named := ["unicode/utf8.first", "unicode/utf8.acceptRanges", "internal/bytealg.MaxLen"], apart := false, laid := [("unicode/utf8.acceptRanges", laid_unicode_utf8_acceptRanges), ("unicode/utf8.first", laid_unicode_utf8_first)] }
def UtfEncodesSaid : Prop := utfEncodesRow.holds Tryd.pinned (OpenSpec.ofChange utfEncodesSpec)

/-- ITS FALSE NEIGHBOUR: 'it returns false'. Refute it at one input. -/
def utfEncodesWrong : ChangeSpec := { name := "utfEncodes", fn := fun _ => fun
  | [d] => { results := [.lit (.bool false)], args := [d] }
  | _ => none }
def UtfEncodesWrongFalsely : Prop := utfEncodesRow.holds Tryd.pinned (OpenSpec.ofChange utfEncodesWrong)

/-- 'hoardinglaw04.CharrefStays': WHATEVER THE INPUT: true; the input reads as it did. -/
def charrefStaysSpec : ChangeSpec := { name := "charrefStays", fn := fun _ => fun
  | [d1, d2, d3] => { results := [.lit (.bool true)], args := [d1, d2, d3] }
  | _ => none }
def charrefStaysRow : OpenClaim := { program := "ytgggnkinalmmlaadoor", sum := "072f9a71408cc73c28e328066a88995f37724cf362cbbc72016e57973c52eb37", func := "hoarding/hoardinglaw04.CharrefStays", spec := "charrefStays", inPlace := ["internal/bytealg.IndexByteString", "internal/bytealg.CountString", "internal/bytealg.IndexString", "internal/abi.NoEscape", "internal/bytealg.MakeNoZero"], named := ["internal/bytealg.MaxLen", "unicode/utf8.first", "unicode/utf8.acceptRanges"], apart := false, laid := [("unicode/utf8.acceptRanges", laid_unicode_utf8_acceptRanges), ("unicode/utf8.first", laid_unicode_utf8_first)] }
def CharrefStaysSaid : Prop := charrefStaysRow.holds Tryd.pinned (OpenSpec.ofChange charrefStaysSpec)

/-- ITS FALSE NEIGHBOUR: 'it returns false'. Refute it at one input. -/
def charrefStaysWrong : ChangeSpec := { name := "charrefStays", fn := fun _ => fun
  | [d1, d2, d3] => { results := [.lit (.bool false)], args := [d1, d2, d3] }
  | _ => none }
def CharrefStaysWrongFalsely : Prop := charrefStaysRow.holds Tryd.pinned (OpenSpec.ofChange charrefStaysWrong)

/-- 'hoardinglaw02.UtfStays': WHATEVER THE INPUT: true; the input reads as it did. -/
def utfStaysSpec : ChangeSpec := { name := "utfStays", fn := fun _ => fun
  | [d] => { results := [.lit (.bool true)], args := [d] }
  | _ => none }
def utfStaysRow : OpenClaim := { program := "ytgggnkinalmmlaadoor", sum := "072f9a71408cc73c28e328066a88995f37724cf362cbbc72016e57973c52eb37", func := "hoarding/hoardinglaw02.UtfStays", spec := "utfStays", inPlace := ["internal/abi.NoEscape", "internal/bytealg.IndexByteString", "internal/bytealg.IndexString", "internal/bytealg.MakeNoZero"], unfollowed := true, recurses := true, named := ["unicode/utf8.first", "unicode/utf8.acceptRanges", "internal/bytealg.MaxLen"], apart := false, laid := [("unicode/utf8.acceptRanges", laid_unicode_utf8_acceptRanges), ("unicode/utf8.first", laid_unicode_utf8_first)] }
def UtfStaysSaid : Prop := utfStaysRow.holds Tryd.pinned (OpenSpec.ofChange utfStaysSpec)

/-- ITS FALSE NEIGHBOUR: 'it returns false'. Refute it at one input. -/
def utfStaysWrong : ChangeSpec := { name := "utfStays", fn := fun _ => fun
  | [d] => { results := [.lit (.bool false)], args := [d] }
  | _ => none }
def UtfStaysWrongFalsely : Prop := utfStaysRow.holds Tryd.pinned (OpenSpec.ofChange utfStaysWrong)

/-- 'hoardinglaw32.AllowTells': WHATEVER THE INPUT: true; the input reads as it did. -/
def allowTellsSpec : ChangeSpec := { name := "allowTells", fn := fun _ => fun
  | [d1, d2, d3] => { results := [.lit (.bool true)], args := [d1, d2, d3] }
  | _ => none }
def allowTellsRow : OpenClaim := { program := "ytgggnkinalmmlaadoor", sum := "072f9a71408cc73c28e328066a88995f37724cf362cbbc72016e57973c52eb37", func := "hoarding/hoardinglaw32.AllowTells", spec := "allowTells", inPlace := ["internal/abi.NoEscape", "internal/bytealg.IndexByteString", "internal/bytealg.IndexString"], unfollowed := true, recurses := true, named := ["unicode/utf8.first", "unicode/utf8.acceptRanges", "internal/bytealg.MaxLen"], apart := false, laid := [("unicode/utf8.acceptRanges", laid_unicode_utf8_acceptRanges), ("unicode/utf8.first", laid_unicode_utf8_first)] }
def AllowTellsSaid : Prop := allowTellsRow.holds Tryd.pinned (OpenSpec.ofChange allowTellsSpec)

/-- ITS FALSE NEIGHBOUR: 'it returns false'. Refute it at one input. -/
def allowTellsWrong : ChangeSpec := { name := "allowTells", fn := fun _ => fun
  | [d1, d2, d3] => { results := [.lit (.bool false)], args := [d1, d2, d3] }
  | _ => none }
def AllowTellsWrongFalsely : Prop := allowTellsRow.holds Tryd.pinned (OpenSpec.ofChange allowTellsWrong)

/-- 'hoardinglaw32.AllowAgain': WHATEVER THE INPUT: true; the input reads as it did. -/
def allowAgainSpec : ChangeSpec := { name := "allowAgain", fn := fun _ => fun
  | [d1, d2, d3] => { results := [.lit (.bool true)], args := [d1, d2, d3] }
  | _ => none }
def allowAgainRow : OpenClaim := { program := "ytgggnkinalmmlaadoor", sum := "072f9a71408cc73c28e328066a88995f37724cf362cbbc72016e57973c52eb37", func := "hoarding/hoardinglaw32.AllowAgain", spec := "allowAgain", inPlace := ["internal/abi.NoEscape", "internal/bytealg.IndexByteString", "internal/bytealg.IndexString"], unfollowed := true, recurses := true, named := ["unicode/utf8.first", "unicode/utf8.acceptRanges", "internal/bytealg.MaxLen"], apart := false, laid := [("unicode/utf8.acceptRanges", laid_unicode_utf8_acceptRanges), ("unicode/utf8.first", laid_unicode_utf8_first)] }
def AllowAgainSaid : Prop := allowAgainRow.holds Tryd.pinned (OpenSpec.ofChange allowAgainSpec)

/-- ITS FALSE NEIGHBOUR: 'it returns false'. Refute it at one input. -/
def allowAgainWrong : ChangeSpec := { name := "allowAgain", fn := fun _ => fun
  | [d1, d2, d3] => { results := [.lit (.bool false)], args := [d1, d2, d3] }
  | _ => none }
def AllowAgainWrongFalsely : Prop := allowAgainRow.holds Tryd.pinned (OpenSpec.ofChange allowAgainWrong)

/-- 'hoardinglaw32.AllowMore': WHATEVER THE INPUT: true; the input reads as it did. -/
def allowMoreSpec : ChangeSpec := { name := "allowMore", fn := fun _ => fun
  | [d1, d2, d3, d4] => { results := [.lit (.bool true)], args := [d1, d2, d3, d4] }
  | _ => none }
def allowMoreRow : OpenClaim := { program := "ytgggnkinalmmlaadoor", sum := "072f9a71408cc73c28e328066a88995f37724cf362cbbc72016e57973c52eb37", func := "hoarding/hoardinglaw32.AllowMore", spec := "allowMore", inPlace := ["internal/abi.NoEscape", "internal/bytealg.IndexByteString", "internal/bytealg.IndexString"], unfollowed := true, recurses := true, named := ["unicode/utf8.first", "unicode/utf8.acceptRanges", "internal/bytealg.MaxLen"], apart := false, laid := [("unicode/utf8.acceptRanges", laid_unicode_utf8_acceptRanges), ("unicode/utf8.first", laid_unicode_utf8_first)] }
def AllowMoreSaid : Prop := allowMoreRow.holds Tryd.pinned (OpenSpec.ofChange allowMoreSpec)

/-- ITS FALSE NEIGHBOUR: 'it returns false'. Refute it at one input. -/
def allowMoreWrong : ChangeSpec := { name := "allowMore", fn := fun _ => fun
  | [d1, d2, d3, d4] => { results := [.lit (.bool false)], args := [d1, d2, d3, d4] }
  | _ => none }
def AllowMoreWrongFalsely : Prop := allowMoreRow.holds Tryd.pinned (OpenSpec.ofChange allowMoreWrong)

/- THE SECOND FORM. 'bulk': how many values and letters a reading holds, each counted each time it is reached (what is shared counts as often as it is met; a slice's spare places count too). A statement '..UptoSaid' is the law's where the arguments, and the package variables that the reading takes, are together of bulk at most 1048576: NARROWER than '..Said'. Prove '..Said' where nothing that the law and all that it calls make is longer than what came in: it says more and counts as full. Else prove '..UptoSaid'. A law counts once. -/
mutual
def uptoBulk {H : Type} : DataW H → Nat
  | .lit (.string bytes) => bytes.length + 1
  | .lit _ => 1
  | .nil => 1
  | .ptr d => uptoBulk d + 1
  | .slice elems spare => uptoBulkAll elems + uptoBulkAll spare + 1
  | .agg parts => uptoBulkAll parts + 1
  | .iface _ d => uptoBulk d + 1
  | .map entries => uptoBulkEntries entries + 1
  | .held _ => 1
def uptoBulkAll {H : Type} : List (DataW H) → Nat
  | [] => 0
  | d :: r => uptoBulk d + uptoBulkAll r
def uptoBulkEntries {H : Type} : List (Lit × DataW H) → Nat
  | [] => 0
  | x :: r => uptoBulkEntry x + uptoBulkEntries r
def uptoBulkEntry {H : Type} : Lit × DataW H → Nat
  | (.string bytes, d) => bytes.length + uptoBulk d + 1
  | (_, d) => uptoBulk d + 1
 end
def uptoSmall : (H : Type) → List (DataW H) → Bool := fun _ ds => decide (uptoBulkAll ds ≤ 1048576)
def OpenSpec.upto (s : _root_.Go.ChangeSpec) : _root_.Go.OpenSpec := { _root_.Go.OpenSpec.ofChange s with cond := some uptoSmall }

/-- 'hoardinglaw31.AddressTells', WHERE WHAT IT READS IS OF BULK AT MOST 1048576: true; the input reads as it did. -/
def addressTellsUptoRow : OpenClaim := { program := "ytgggnkinalmmlaadoor", sum := "072f9a71408cc73c28e328066a88995f37724cf362cbbc72016e57973c52eb37", func := "hoarding/hoardinglaw31.AddressTells", spec := "addressTells", inPlace := ["internal/bytealg.IndexByteString", "internal/bytealg.IndexString"], unfollowed := true, recurses := true, named := ["unicode/utf8.first", "unicode/utf8.acceptRanges", "internal/bytealg.MaxLen"], apart := false, laid := [("unicode/utf8.acceptRanges", laid_unicode_utf8_acceptRanges), ("unicode/utf8.first", laid_unicode_utf8_first)], narrowed := true }
def AddressTellsUptoSaid : Prop := addressTellsUptoRow.holds Tryd.pinned (OpenSpec.upto addressTellsSpec)

/-- 'hoardinglaw31.AddressMore', WHERE WHAT IT READS IS OF BULK AT MOST 1048576: true; the input reads as it did. -/
def addressMoreUptoRow : OpenClaim := { program := "ytgggnkinalmmlaadoor", sum := "072f9a71408cc73c28e328066a88995f37724cf362cbbc72016e57973c52eb37", func := "hoarding/hoardinglaw31.AddressMore", spec := "addressMore", inPlace := ["internal/bytealg.IndexByteString", "internal/bytealg.IndexString"], unfollowed := true, recurses := true, named := ["unicode/utf8.first", "unicode/utf8.acceptRanges", "internal/bytealg.MaxLen"], apart := false, laid := [("unicode/utf8.acceptRanges", laid_unicode_utf8_acceptRanges), ("unicode/utf8.first", laid_unicode_utf8_first)], narrowed := true }
def AddressMoreUptoSaid : Prop := addressMoreUptoRow.holds Tryd.pinned (OpenSpec.upto addressMoreSpec)

/-- 'hoardinglaw02.UtfDecodes', WHERE WHAT IT READS IS OF BULK AT MOST 1048576: true; the input reads as it did. -/
def utfDecodesUptoRow : OpenClaim := { program := "ytgggnkinalmmlaadoor", sum := "072f9a71408cc73c28e328066a88995f37724cf362cbbc72016e57973c52eb37", func := "hoarding/hoardinglaw02.UtfDecodes", spec := "utfDecodes", inPlace := ["internal/abi.NoEscape", "internal/bytealg.IndexByteString", "internal/bytealg.IndexString"], named := ["unicode/utf8.first", "unicode/utf8.acceptRanges", "internal/bytealg.MaxLen"], apart := false, laid := [("unicode/utf8.acceptRanges", laid_unicode_utf8_acceptRanges), ("unicode/utf8.first", laid_unicode_utf8_first)], narrowed := true }
def UtfDecodesUptoSaid : Prop := utfDecodesUptoRow.holds Tryd.pinned (OpenSpec.upto utfDecodesSpec)

/-- 'hoardinglaw02.UtfEncodes', WHERE WHAT IT READS IS OF BULK AT MOST 1048576: true; the input reads as it did. -/
def utfEncodesUptoRow : OpenClaim := { program := "ytgggnkinalmmlaadoor", sum := "072f9a71408cc73c28e328066a88995f37724cf362cbbc72016e57973c52eb37", func := "hoarding/hoardinglaw02.UtfEncodes", spec := "utfEncodes", inPlace := ["internal/bytealg.IndexByteString", "internal/bytealg.IndexString", "internal/abi.NoEscape"], named := ["unicode/utf8.first", "unicode/utf8.acceptRanges", "internal/bytealg.MaxLen"], apart := false, laid := [("unicode/utf8.acceptRanges", laid_unicode_utf8_acceptRanges), ("unicode/utf8.first", laid_unicode_utf8_first)], narrowed := true }
def UtfEncodesUptoSaid : Prop := utfEncodesUptoRow.holds Tryd.pinned (OpenSpec.upto utfEncodesSpec)

/-- 'hoardinglaw04.CharrefStays', WHERE WHAT IT READS IS OF BULK AT MOST 1048576: true; the input reads as it did. -/
def charrefStaysUptoRow : OpenClaim := { program := "ytgggnkinalmmlaadoor", sum := "072f9a71408cc73c28e328066a88995f37724cf362cbbc72016e57973c52eb37", func := "hoarding/hoardinglaw04.CharrefStays", spec := "charrefStays", inPlace := ["internal/bytealg.IndexByteString", "internal/bytealg.CountString", "internal/bytealg.IndexString", "internal/abi.NoEscape", "internal/bytealg.MakeNoZero"], named := ["internal/bytealg.MaxLen", "unicode/utf8.first", "unicode/utf8.acceptRanges"], apart := false, laid := [("unicode/utf8.acceptRanges", laid_unicode_utf8_acceptRanges), ("unicode/utf8.first", laid_unicode_utf8_first)], narrowed := true }
def CharrefStaysUptoSaid : Prop := charrefStaysUptoRow.holds Tryd.pinned (OpenSpec.upto charrefStaysSpec)

/-- 'hoardinglaw02.UtfStays', WHERE WHAT IT READS IS OF BULK AT MOST 1048576: true; the input reads as it did. -/
def utfStaysUptoRow : OpenClaim := { program := "ytgggnkinalmmlaadoor", sum := "072f9a71408cc73c28e328066a88995f37724cf362cbbc72016e57973c52eb37", func := "hoarding/hoardinglaw02.UtfStays", spec := "utfStays", inPlace := ["internal/abi.NoEscape", "internal/bytealg.IndexByteString", "internal/bytealg.IndexString", "internal/bytealg.MakeNoZero"], unfollowed := true, recurses := true, named := ["unicode/utf8.first", "unicode/utf8.acceptRanges", "internal/bytealg.MaxLen"], apart := false, laid := [("unicode/utf8.acceptRanges", laid_unicode_utf8_acceptRanges), ("unicode/utf8.first", laid_unicode_utf8_first)], narrowed := true }
def UtfStaysUptoSaid : Prop := utfStaysUptoRow.holds Tryd.pinned (OpenSpec.upto utfStaysSpec)

/-- 'hoardinglaw32.AllowTells', WHERE WHAT IT READS IS OF BULK AT MOST 1048576: true; the input reads as it did. -/
def allowTellsUptoRow : OpenClaim := { program := "ytgggnkinalmmlaadoor", sum := "072f9a71408cc73c28e328066a88995f37724cf362cbbc72016e57973c52eb37", func := "hoarding/hoardinglaw32.AllowTells", spec := "allowTells", inPlace := ["internal/abi.NoEscape", "internal/bytealg.IndexByteString", "internal/bytealg.IndexString"], unfollowed := true, recurses := true, named := ["unicode/utf8.first", "unicode/utf8.acceptRanges", "internal/bytealg.MaxLen"], apart := false, laid := [("unicode/utf8.acceptRanges", laid_unicode_utf8_acceptRanges), ("unicode/utf8.first", laid_unicode_utf8_first)], narrowed := true }
def AllowTellsUptoSaid : Prop := allowTellsUptoRow.holds Tryd.pinned (OpenSpec.upto allowTellsSpec)

/-- 'hoardinglaw32.AllowAgain', WHERE WHAT IT READS IS OF BULK AT MOST 1048576: true; the input reads as it did. -/
def allowAgainUptoRow : OpenClaim := { program := "ytgggnkinalmmlaadoor", sum := "072f9a71408cc73c28e328066a88995f37724cf362cbbc72016e57973c52eb37", func := "hoarding/hoardinglaw32.AllowAgain", spec := "allowAgain", inPlace := ["internal/abi.NoEscape", "internal/bytealg.IndexByteString", "internal/bytealg.IndexString"], unfollowed := true, recurses := true, named := ["unicode/utf8.first", "unicode/utf8.acceptRanges", "internal/bytealg.MaxLen"], apart := false, laid := [("unicode/utf8.acceptRanges", laid_unicode_utf8_acceptRanges), ("unicode/utf8.first", laid_unicode_utf8_first)], narrowed := true }
def AllowAgainUptoSaid : Prop := allowAgainUptoRow.holds Tryd.pinned (OpenSpec.upto allowAgainSpec)

/-- 'hoardinglaw32.AllowMore', WHERE WHAT IT READS IS OF BULK AT MOST 1048576: true; the input reads as it did. -/
def allowMoreUptoRow : OpenClaim := { program := "ytgggnkinalmmlaadoor", sum := "072f9a71408cc73c28e328066a88995f37724cf362cbbc72016e57973c52eb37", func := "hoarding/hoardinglaw32.AllowMore", spec := "allowMore", inPlace := ["internal/abi.NoEscape", "internal/bytealg.IndexByteString", "internal/bytealg.IndexString"], unfollowed := true, recurses := true, named := ["unicode/utf8.first", "unicode/utf8.acceptRanges", "internal/bytealg.MaxLen"], apart := false, laid := [("unicode/utf8.acceptRanges", laid_unicode_utf8_acceptRanges), ("unicode/utf8.first", laid_unicode_utf8_first)], narrowed := true }
def AllowMoreUptoSaid : Prop := allowMoreUptoRow.holds Tryd.pinned (OpenSpec.upto allowMoreSpec)

end Rows
end Go.Proofs.YtgggnkinalmmlaaDoor
