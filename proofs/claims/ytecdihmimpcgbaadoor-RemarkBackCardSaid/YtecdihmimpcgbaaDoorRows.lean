/-
  NARROWER THAN 'FOR EVERY INPUT', by the rows' own cells (each row's printed sentence says how): AsciiTells: laid · AsciiKeeps: laid · RemarkReads: laid · RemarkStops: laid · RemarkBack: laid.
  DERIVED. THE GIVEN ROWS OF THIS SEAT. 5 by the template 'for every input the law returns true; each argument reads behind the call as it read before'; 0 by the template 'total and deterministic' (their statements: YtecdihmimpcgbaaDoorTotals.lean).
  GIVEN WITH THE SEED: the statements are not yours to turn. If you find one false, say at which input.
  Laid BY PROGRAM, IN A SANDBOX (cutbox-rows.mjs): the forced cells as the released guide's own fill.sh prints them over the translation fd5b74cc0c3d87f7… (all of the seat's roots in one cut). By AI agents, Wed Nov 11 2026. No macro, syntax, notation, axiom, sorry.
-/
import Derived.Test.YtecdihmimpcgbaaDoorChecked
import GoSem.PinnedTables
import GoSem.Claim
import GoSem.ClaimJoined
import GoSem.ClaimMapViews
import Derived.JoinedTies
import Derived.KernelRfl
namespace Go.Proofs.YtecdihmimpcgbaaDoor
/- THE CELL 'sum', in the pinned program and in every row, IS THE sha256 OF THE DUMP (.gsa) THAT YtecdihmimpcgbaaDoorProg.lean LOADS. Nothing in Lean hashes anything: it is a label: what it is worth is what the hold of that sum in a sandbox is worth. -/
noncomputable def Tryd.pinned : Pinned := { name := "ytecdihmimpcgbaadoor", sum := "fd5b74cc0c3d87f704031e9dd1120c436d260c58b2e7b6a35923c76d7dee46d5", checked := Tryd.checked }
namespace Rows
def none {H : Type} : Left H := { results := [], args := [] }

/- WHAT THE LISTED PACKAGE-LEVEL VARIABLES READ AS WHEN THE CALL BEGINS. Each datum BY PROGRAM (the guide's laid-datum.mjs) off the statement by which the dump's own 'gosem.cut.vars' lays the variable. In a bare row this is a premise. The card (YtecdihmimpcgbaaDoorCards.lean) ties it to the program's text. -/
def laid_unicode_utf8_acceptRanges {H : Type} : DataW H := .agg [.agg [.lit (.int .u8 128), .lit (.int .u8 191)], .agg [.lit (.int .u8 160), .lit (.int .u8 191)], .agg [.lit (.int .u8 128), .lit (.int .u8 159)], .agg [.lit (.int .u8 144), .lit (.int .u8 191)], .agg [.lit (.int .u8 128), .lit (.int .u8 143)], .agg [.lit (.int .u8 0), .lit (.int .u8 0)], .agg [.lit (.int .u8 0), .lit (.int .u8 0)], .agg [.lit (.int .u8 0), .lit (.int .u8 0)], .agg [.lit (.int .u8 0), .lit (.int .u8 0)], .agg [.lit (.int .u8 0), .lit (.int .u8 0)], .agg [.lit (.int .u8 0), .lit (.int .u8 0)], .agg [.lit (.int .u8 0), .lit (.int .u8 0)], .agg [.lit (.int .u8 0), .lit (.int .u8 0)], .agg [.lit (.int .u8 0), .lit (.int .u8 0)], .agg [.lit (.int .u8 0), .lit (.int .u8 0)], .agg [.lit (.int .u8 0), .lit (.int .u8 0)]]
/-- One of Go's own tables, pinned by name: the form's constant. -/
def laid_unicode_utf8_first : DataW Unit := Go.Pinned.utf8First

/-- 'hoardinglaw01.AsciiTells': WHATEVER THE INPUT: true; the input reads as it did. -/
def asciiTellsSpec : ChangeSpec := { name := "asciiTells", fn := fun _ => fun
  | [d1, d2, d3] => { results := [.lit (.bool true)], args := [d1, d2, d3] }
  | _ => none }
def asciiTellsRow : OpenClaim := { program := "ytecdihmimpcgbaadoor", sum := "fd5b74cc0c3d87f704031e9dd1120c436d260c58b2e7b6a35923c76d7dee46d5", func := "hoarding/hoardinglaw01.AsciiTells", spec := "asciiTells", inPlace := ["internal/bytealg.IndexByteString", "internal/bytealg.IndexString"], named := ["unicode/utf8.first", "unicode/utf8.acceptRanges", "internal/bytealg.MaxLen"], apart := false, laid := [("unicode/utf8.acceptRanges", laid_unicode_utf8_acceptRanges), ("unicode/utf8.first", laid_unicode_utf8_first)] }
def AsciiTellsSaid : Prop := asciiTellsRow.holds Tryd.pinned (OpenSpec.ofChange asciiTellsSpec)

/-- ITS FALSE NEIGHBOUR: 'it returns false'. Refute it at one input. -/
def asciiTellsWrong : ChangeSpec := { name := "asciiTells", fn := fun _ => fun
  | [d1, d2, d3] => { results := [.lit (.bool false)], args := [d1, d2, d3] }
  | _ => none }
def AsciiTellsWrongFalsely : Prop := asciiTellsRow.holds Tryd.pinned (OpenSpec.ofChange asciiTellsWrong)

/-- 'hoardinglaw01.AsciiKeeps': WHATEVER THE INPUT: true; the input reads as it did. -/
def asciiKeepsSpec : ChangeSpec := { name := "asciiKeeps", fn := fun _ => fun
  | [d1, d2] => { results := [.lit (.bool true)], args := [d1, d2] }
  | _ => none }
def asciiKeepsRow : OpenClaim := { program := "ytecdihmimpcgbaadoor", sum := "fd5b74cc0c3d87f704031e9dd1120c436d260c58b2e7b6a35923c76d7dee46d5", func := "hoarding/hoardinglaw01.AsciiKeeps", spec := "asciiKeeps", inPlace := ["internal/bytealg.IndexByteString", "internal/bytealg.IndexString"], named := ["unicode/utf8.first", "unicode/utf8.acceptRanges", "internal/bytealg.MaxLen"], apart := false, laid := [("unicode/utf8.acceptRanges", laid_unicode_utf8_acceptRanges), ("unicode/utf8.first", laid_unicode_utf8_first)] }
def AsciiKeepsSaid : Prop := asciiKeepsRow.holds Tryd.pinned (OpenSpec.ofChange asciiKeepsSpec)

/-- ITS FALSE NEIGHBOUR: 'it returns false'. Refute it at one input. -/
def asciiKeepsWrong : ChangeSpec := { name := "asciiKeeps", fn := fun _ => fun
  | [d1, d2] => { results := [.lit (.bool false)], args := [d1, d2] }
  | _ => none }
def AsciiKeepsWrongFalsely : Prop := asciiKeepsRow.holds Tryd.pinned (OpenSpec.ofChange asciiKeepsWrong)

/-- 'hoardinglaw09.RemarkReads': WHATEVER THE INPUT: true; the input reads as it did. -/
def remarkReadsSpec : ChangeSpec := { name := "remarkReads", fn := fun _ => fun
  | [d1, d2] => { results := [.lit (.bool true)], args := [d1, d2] }
  | _ => none }
def remarkReadsRow : OpenClaim := { program := "ytecdihmimpcgbaadoor", sum := "fd5b74cc0c3d87f704031e9dd1120c436d260c58b2e7b6a35923c76d7dee46d5", func := "hoarding/hoardinglaw09.RemarkReads", spec := "remarkReads", inPlace := ["internal/bytealg.IndexByteString", "internal/bytealg.IndexString"], named := ["internal/bytealg.MaxLen", "unicode/utf8.first", "unicode/utf8.acceptRanges"], apart := false, laid := [("unicode/utf8.acceptRanges", laid_unicode_utf8_acceptRanges), ("unicode/utf8.first", laid_unicode_utf8_first)] }
def RemarkReadsSaid : Prop := remarkReadsRow.holds Tryd.pinned (OpenSpec.ofChange remarkReadsSpec)

/-- ITS FALSE NEIGHBOUR: 'it returns false'. Refute it at one input. -/
def remarkReadsWrong : ChangeSpec := { name := "remarkReads", fn := fun _ => fun
  | [d1, d2] => { results := [.lit (.bool false)], args := [d1, d2] }
  | _ => none }
def RemarkReadsWrongFalsely : Prop := remarkReadsRow.holds Tryd.pinned (OpenSpec.ofChange remarkReadsWrong)

/-- 'hoardinglaw09.RemarkStops': WHATEVER THE INPUT: true; the input reads as it did. -/
def remarkStopsSpec : ChangeSpec := { name := "remarkStops", fn := fun _ => fun
  | [d1, d2, d3] => { results := [.lit (.bool true)], args := [d1, d2, d3] }
  | _ => none }
def remarkStopsRow : OpenClaim := { program := "ytecdihmimpcgbaadoor", sum := "fd5b74cc0c3d87f704031e9dd1120c436d260c58b2e7b6a35923c76d7dee46d5", func := "hoarding/hoardinglaw09.RemarkStops", spec := "remarkStops", inPlace := ["internal/bytealg.IndexByteString", "internal/bytealg.IndexString"], named := ["internal/bytealg.MaxLen", "unicode/utf8.first", "unicode/utf8.acceptRanges"], apart := false, laid := [("unicode/utf8.acceptRanges", laid_unicode_utf8_acceptRanges), ("unicode/utf8.first", laid_unicode_utf8_first)] }
def RemarkStopsSaid : Prop := remarkStopsRow.holds Tryd.pinned (OpenSpec.ofChange remarkStopsSpec)

/-- ITS FALSE NEIGHBOUR: 'it returns false'. Refute it at one input. -/
def remarkStopsWrong : ChangeSpec := { name := "remarkStops", fn := fun _ => fun
  | [d1, d2, d3] => { results := [.lit (.bool false)], args := [d1, d2, d3] }
  | _ => none }
def RemarkStopsWrongFalsely : Prop := remarkStopsRow.holds Tryd.pinned (OpenSpec.ofChange remarkStopsWrong)

/-- 'hoardinglaw09.RemarkBack': WHATEVER THE INPUT: true; the input reads as it did. -/
def remarkBackSpec : ChangeSpec := { name := "remarkBack", fn := fun _ => fun
  | [d1, d2] => { results := [.lit (.bool true)], args := [d1, d2] }
  | _ => none }
def remarkBackRow : OpenClaim := { program := "ytecdihmimpcgbaadoor", sum := "fd5b74cc0c3d87f704031e9dd1120c436d260c58b2e7b6a35923c76d7dee46d5", func := "hoarding/hoardinglaw09.RemarkBack", spec := "remarkBack", inPlace := ["internal/bytealg.IndexByteString", "internal/bytealg.IndexString"], named := ["internal/bytealg.MaxLen", "unicode/utf8.first", "unicode/utf8.acceptRanges"], apart := false, laid := [("unicode/utf8.acceptRanges", laid_unicode_utf8_acceptRanges), ("unicode/utf8.first", laid_unicode_utf8_first)] }
def RemarkBackSaid : Prop := remarkBackRow.holds Tryd.pinned (OpenSpec.ofChange remarkBackSpec)

/-- ITS FALSE NEIGHBOUR: 'it returns false'. Refute it at one input. -/
def remarkBackWrong : ChangeSpec := { name := "remarkBack", fn := fun _ => fun
  | [d1, d2] => { results := [.lit (.bool false)], args := [d1, d2] }
  | _ => none }
def RemarkBackWrongFalsely : Prop := remarkBackRow.holds Tryd.pinned (OpenSpec.ofChange remarkBackWrong)

/- THE SECOND FORM. 'bulk': how many values and letters a reading holds, each counted each time it is reached (what is shared counts as often as it is met; a slice's spare places count too). A statement '..UptoSaid' is the law's where the arguments, and the package variables that the reading takes, are together of bulk at most 1048576: NARROWER than '..Said'. Prove '..Said' where nothing that the law and all that it calls make is longer than what came in: it says more and counts as full. Else prove '..UptoSaid'. A law counts once. -/
mutual
def uptoBulk {H : Type} : DataW H → Nat
  | .lit (.string bytes) => bytes.length + 1
  | .lit _ => 1
  | .nil => 1
  | .ptr d => uptoBulk d + 1
  | .slice elems spare => uptoBulkAll elems + uptoBulkAll spare + 1
  | .agg parts => uptoBulkAll parts + 1
  | .iface _ d => uptoBulk d + 1
  | .map entries => uptoBulkEntries entries + 1
  | .held _ => 1
def uptoBulkAll {H : Type} : List (DataW H) → Nat
  | [] => 0
  | d :: r => uptoBulk d + uptoBulkAll r
def uptoBulkEntries {H : Type} : List (Lit × DataW H) → Nat
  | [] => 0
  | x :: r => uptoBulkEntry x + uptoBulkEntries r
def uptoBulkEntry {H : Type} : Lit × DataW H → Nat
  | (.string bytes, d) => bytes.length + uptoBulk d + 1
  | (_, d) => uptoBulk d + 1
 end
def uptoSmall : (H : Type) → List (DataW H) → Bool := fun _ ds => decide (uptoBulkAll ds ≤ 1048576)
def OpenSpec.upto (s : _root_.Go.ChangeSpec) : _root_.Go.OpenSpec := { _root_.Go.OpenSpec.ofChange s with cond := some uptoSmall }

/-- 'hoardinglaw01.AsciiTells', WHERE WHAT IT READS IS OF BULK AT MOST 1048576: true; the input reads as it did. -/
def asciiTellsUptoRow : OpenClaim := { program := "ytecdihmimpcgbaadoor", sum := "fd5b74cc0c3d87f704031e9dd1120c436d260c58b2e7b6a35923c76d7dee46d5", func := "hoarding/hoardinglaw01.AsciiTells", spec := "asciiTells", inPlace := ["internal/bytealg.IndexByteString", "internal/bytealg.IndexString"], named := ["unicode/utf8.first", "unicode/utf8.acceptRanges", "internal/bytealg.MaxLen"], apart := false, laid := [("unicode/utf8.acceptRanges", laid_unicode_utf8_acceptRanges), ("unicode/utf8.first", laid_unicode_utf8_first)], narrowed := true }
def AsciiTellsUptoSaid : Prop := asciiTellsUptoRow.holds Tryd.pinned (OpenSpec.upto asciiTellsSpec)

/-- 'hoardinglaw01.AsciiKeeps', WHERE WHAT IT READS IS OF BULK AT MOST 1048576: true; the input reads as it did. -/
def asciiKeepsUptoRow : OpenClaim := { program := "ytecdihmimpcgbaadoor", sum := "fd5b74cc0c3d87f704031e9dd1120c436d260c58b2e7b6a35923c76d7dee46d5", func := "hoarding/hoardinglaw01.AsciiKeeps", spec := "asciiKeeps", inPlace := ["internal/bytealg.IndexByteString", "internal/bytealg.IndexString"], named := ["unicode/utf8.first", "unicode/utf8.acceptRanges", "internal/bytealg.MaxLen"], apart := false, laid := [("unicode/utf8.acceptRanges", laid_unicode_utf8_acceptRanges), ("unicode/utf8.first", laid_unicode_utf8_first)], narrowed := true }
def AsciiKeepsUptoSaid : Prop := asciiKeepsUptoRow.holds Tryd.pinned (OpenSpec.upto asciiKeepsSpec)

/-- 'hoardinglaw09.RemarkReads', WHERE WHAT IT READS IS OF BULK AT MOST 1048576: true; the input reads as it did. -/
def remarkReadsUptoRow : OpenClaim := { program := "ytecdihmimpcgbaadoor", sum := "fd5b74cc0c3d87f704031e9dd1120c436d260c58b2e7b6a35923c76d7dee46d5", func := "hoarding/hoardinglaw09.RemarkReads", spec := "remarkReads", inPlace := ["internal/bytealg.IndexByteString", "internal/bytealg.IndexString"], named := ["internal/bytealg.MaxLen", "unicode/utf8.first", "unicode/utf8.acceptRanges"], apart := false, laid := [("unicode/utf8.acceptRanges", laid_unicode_utf8_acceptRanges), ("unicode/utf8.first", laid_unicode_utf8_first)], narrowed := true }
def RemarkReadsUptoSaid : Prop := remarkReadsUptoRow.holds Tryd.pinned (OpenSpec.upto remarkReadsSpec)

/-- 'hoardinglaw09.RemarkStops', WHERE WHAT IT READS IS OF BULK AT MOST 1048576: true; the input reads as it did. -/
def remarkStopsUptoRow : OpenClaim := { program := "ytecdihmimpcgbaadoor", sum := "fd5b74cc0c3d87f704031e9dd1120c436d260c58b2e7b6a35923c76d7dee46d5", func := "hoarding/hoardinglaw09.RemarkStops", spec := "remarkStops", inPlace := ["internal/bytealg.IndexByteString", "internal/bytealg.IndexString"], named := ["internal/bytealg.MaxLen", "unicode/utf8.first", "unicode/utf8.acceptRanges"], apart := false, laid := [("unicode/utf8.acceptRanges", laid_unicode_utf8_acceptRanges), ("unicode/utf8.first", laid_unicode_utf8_first)], narrowed := true }
def RemarkStopsUptoSaid : Prop := remarkStopsUptoRow.holds Tryd.pinned (OpenSpec.upto remarkStopsSpec)

/-- 'hoardinglaw09.RemarkBack', WHERE WHAT IT READS IS OF BULK AT MOST 1048576: true; the input reads as it did. -/
def remarkBackUptoRow : OpenClaim := { program := "ytecdihmimpcgbaadoor", sum := "fd5b74cc0c3d87f704031e9dd1120c436d260c58b2e7b6a35923c76d7dee46d5", func := "hoarding/hoardinglaw09.RemarkBack", spec := "remarkBack", inPlace := ["internal/bytealg.IndexByteString", "internal/bytealg.IndexString"], named := ["internal/bytealg.MaxLen", "unicode/utf8.first", "unicode/utf8.acceptRanges"], apart := false, laid := [("unicode/utf8.acceptRanges", laid_unicode_utf8_acceptRanges), ("unicode/utf8.first", laid_unicode_utf8_first)], narrowed := true }
def RemarkBackUptoSaid : Prop := remarkBackUptoRow.holds Tryd.pinned (OpenSpec.upto remarkBackSpec)

end Rows
end Go.Proofs.YtecdihmimpcgbaaDoor
