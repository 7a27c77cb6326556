/-
  No cell of these rows narrows 'for every input' (looked for: loops, veiled, ifaces, maps, wideKeys, modest, calm, conditions, laid).
  DERIVED. THE GIVEN ROWS OF THIS SEAT. 6 by the template 'for every input the law returns true; each argument reads behind the call as it read before'; 0 by the template 'total and deterministic' (their statements: YtecfabjncghbnaaTotals.lean).
  GIVEN WITH THE SEED: the statements are not yours to turn. If you find one false, say at which input.
  Laid BY PROGRAM, IN A SANDBOX (cutbox-rows.mjs): the forced cells as the released guide's own fill.sh prints them over the translation 9f06ccffbc9599a6… (all of the seat's roots in one cut). By AI agents, Wed Nov 11 2026. No macro, syntax, notation, axiom, sorry.
-/
import Derived.Test.YtecfabjncghbnaaChecked
import GoSem.Claim
import GoSem.ClaimJoined
import GoSem.ClaimMapViews
import Derived.JoinedTies
import Derived.KernelRfl
namespace Go.Proofs.Ytecfabjncghbnaa
/- THE CELL 'sum', in the pinned program and in every row, IS THE sha256 OF THE DUMP (.gsa) THAT YtecfabjncghbnaaProg.lean LOADS. Nothing in Lean hashes anything: it is a label: what it is worth is what the hold of that sum in a sandbox is worth. -/
noncomputable def Try.pinned : Pinned := { name := "ytecfabjncghbnaa", sum := "9f06ccffbc9599a68e4229eba589b7bdafc9782db47f6bd6558128ff46863d7a", checked := Try.checked }
namespace Rows
def none {H : Type} : Left H := { results := [], args := [] }

/-- 'hoardinglaw05.EscapeTells': WHATEVER THE INPUT: true; the input reads as it did. -/
def escapeTellsSpec : ChangeSpec := { name := "escapeTells", fn := fun _ => fun
  | [d] => { results := [.lit (.bool true)], args := [d] }
  | _ => none }
def escapeTellsRow : OpenClaim := { program := "ytecfabjncghbnaa", sum := "9f06ccffbc9599a68e4229eba589b7bdafc9782db47f6bd6558128ff46863d7a", func := "hoarding/hoardinglaw05.EscapeTells", spec := "escapeTells", inPlace := ["internal/abi.NoEscape", "internal/bytealg.CountString", "internal/bytealg.IndexByteString", "internal/bytealg.IndexString"], named := ["internal/bytealg.MaxLen"], apart := false }
def EscapeTellsSaid : Prop := escapeTellsRow.holds Try.pinned (OpenSpec.ofChange escapeTellsSpec)

/-- ITS FALSE NEIGHBOUR: 'it returns false'. Refute it at one input. -/
def escapeTellsWrong : ChangeSpec := { name := "escapeTells", fn := fun _ => fun
  | [d] => { results := [.lit (.bool false)], args := [d] }
  | _ => none }
def EscapeTellsWrongFalsely : Prop := escapeTellsRow.holds Try.pinned (OpenSpec.ofChange escapeTellsWrong)

/-- 'hoardinglaw04.CharrefTells': WHATEVER THE INPUT: true; the input reads as it did. -/
def charrefTellsSpec : ChangeSpec := { name := "charrefTells", fn := fun _ => fun
  | [d1, d2, d3, d4] => { results := [.lit (.bool true)], args := [d1, d2, d3, d4] }
  | _ => none }
def charrefTellsRow : OpenClaim := { program := "ytecfabjncghbnaa", sum := "9f06ccffbc9599a68e4229eba589b7bdafc9782db47f6bd6558128ff46863d7a", func := "hoarding/hoardinglaw04.CharrefTells", spec := "charrefTells", inPlace := ["internal/bytealg.IndexByteString"], apart := false }
def CharrefTellsSaid : Prop := charrefTellsRow.holds Try.pinned (OpenSpec.ofChange charrefTellsSpec)

/-- ITS FALSE NEIGHBOUR: 'it returns false'. Refute it at one input. -/
def charrefTellsWrong : ChangeSpec := { name := "charrefTells", fn := fun _ => fun
  | [d1, d2, d3, d4] => { results := [.lit (.bool false)], args := [d1, d2, d3, d4] }
  | _ => none }
def CharrefTellsWrongFalsely : Prop := charrefTellsRow.holds Try.pinned (OpenSpec.ofChange charrefTellsWrong)

/-- 'hoardinglaw04.CharrefDecodes': WHATEVER THE INPUT: true; the input reads as it did. -/
def charrefDecodesSpec : ChangeSpec := { name := "charrefDecodes", fn := fun _ => fun
  | [d1, d2] => { results := [.lit (.bool true)], args := [d1, d2] }
  | _ => none }
def charrefDecodesRow : OpenClaim := { program := "ytecfabjncghbnaa", sum := "9f06ccffbc9599a68e4229eba589b7bdafc9782db47f6bd6558128ff46863d7a", func := "hoarding/hoardinglaw04.CharrefDecodes", spec := "charrefDecodes", inPlace := ["internal/bytealg.IndexByteString"], apart := false }
def CharrefDecodesSaid : Prop := charrefDecodesRow.holds Try.pinned (OpenSpec.ofChange charrefDecodesSpec)

/-- ITS FALSE NEIGHBOUR: 'it returns false'. Refute it at one input. -/
def charrefDecodesWrong : ChangeSpec := { name := "charrefDecodes", fn := fun _ => fun
  | [d1, d2] => { results := [.lit (.bool false)], args := [d1, d2] }
  | _ => none }
def CharrefDecodesWrongFalsely : Prop := charrefDecodesRow.holds Try.pinned (OpenSpec.ofChange charrefDecodesWrong)

/-- 'hoardinglaw03.WordsTell': WHATEVER THE INPUT: true; the input reads as it did. -/
def wordsTellSpec : ChangeSpec := { name := "wordsTell", fn := fun _ => fun
  | [d1, d2, d3] => { results := [.lit (.bool true)], args := [d1, d2, d3] }
  | _ => none }
def wordsTellRow : OpenClaim := { program := "ytecfabjncghbnaa", sum := "9f06ccffbc9599a68e4229eba589b7bdafc9782db47f6bd6558128ff46863d7a", func := "hoarding/hoardinglaw03.WordsTell", spec := "wordsTell", inPlace := ["internal/abi.NoEscape", "internal/bytealg.MakeNoZero", "internal/bytealg.IndexByteString", "internal/bytealg.IndexString"], unfollowed := true, recurses := true, named := ["internal/bytealg.MaxLen"], apart := false }
def WordsTellSaid : Prop := wordsTellRow.holds Try.pinned (OpenSpec.ofChange wordsTellSpec)

/-- ITS FALSE NEIGHBOUR: 'it returns false'. Refute it at one input. -/
def wordsTellWrong : ChangeSpec := { name := "wordsTell", fn := fun _ => fun
  | [d1, d2, d3] => { results := [.lit (.bool false)], args := [d1, d2, d3] }
  | _ => none }
def WordsTellWrongFalsely : Prop := wordsTellRow.holds Try.pinned (OpenSpec.ofChange wordsTellWrong)

/-- 'hoardinglaw03.WordsBack': WHATEVER THE INPUT: true; the input reads as it did. -/
def wordsBackSpec : ChangeSpec := { name := "wordsBack", fn := fun _ => fun
  | [d] => { results := [.lit (.bool true)], args := [d] }
  | _ => none }
def wordsBackRow : OpenClaim := { program := "ytecfabjncghbnaa", sum := "9f06ccffbc9599a68e4229eba589b7bdafc9782db47f6bd6558128ff46863d7a", func := "hoarding/hoardinglaw03.WordsBack", spec := "wordsBack", inPlace := ["internal/abi.NoEscape", "internal/bytealg.MakeNoZero", "internal/bytealg.IndexByteString", "internal/bytealg.IndexString"], unfollowed := true, recurses := true, named := ["internal/bytealg.MaxLen"], apart := false }
def WordsBackSaid : Prop := wordsBackRow.holds Try.pinned (OpenSpec.ofChange wordsBackSpec)

/-- ITS FALSE NEIGHBOUR: 'it returns false'. Refute it at one input. -/
def wordsBackWrong : ChangeSpec := { name := "wordsBack", fn := fun _ => fun
  | [d] => { results := [.lit (.bool false)], args := [d] }
  | _ => none }
def WordsBackWrongFalsely : Prop := wordsBackRow.holds Try.pinned (OpenSpec.ofChange wordsBackWrong)

/-- 'hoardinglaw05.EscapeBack': WHATEVER THE INPUT: true; the input reads as it did. -/
def escapeBackSpec : ChangeSpec := { name := "escapeBack", fn := fun _ => fun
  | [d] => { results := [.lit (.bool true)], args := [d] }
  | _ => none }
def escapeBackRow : OpenClaim := { program := "ytecfabjncghbnaa", sum := "9f06ccffbc9599a68e4229eba589b7bdafc9782db47f6bd6558128ff46863d7a", func := "hoarding/hoardinglaw05.EscapeBack", spec := "escapeBack", inPlace := ["internal/abi.NoEscape", "internal/bytealg.CountString", "internal/bytealg.IndexByteString", "internal/bytealg.IndexString"], named := ["internal/bytealg.MaxLen"], apart := false }
def EscapeBackSaid : Prop := escapeBackRow.holds Try.pinned (OpenSpec.ofChange escapeBackSpec)

/-- ITS FALSE NEIGHBOUR: 'it returns false'. Refute it at one input. -/
def escapeBackWrong : ChangeSpec := { name := "escapeBack", fn := fun _ => fun
  | [d] => { results := [.lit (.bool false)], args := [d] }
  | _ => none }
def EscapeBackWrongFalsely : Prop := escapeBackRow.holds Try.pinned (OpenSpec.ofChange escapeBackWrong)

/- THE SECOND FORM. 'bulk': how many values and letters a reading holds, each counted each time it is reached (what is shared counts as often as it is met; a slice's spare places count too). A statement '..UptoSaid' is the law's where the arguments, and the package variables that the reading takes, are together of bulk at most 1048576: NARROWER than '..Said'. Prove '..Said' where nothing that the law and all that it calls make is longer than what came in: it says more and counts as full. Else prove '..UptoSaid'. A law counts once. -/
mutual
def uptoBulk {H : Type} : DataW H → Nat
  | .lit (.string bytes) => bytes.length + 1
  | .lit _ => 1
  | .nil => 1
  | .ptr d => uptoBulk d + 1
  | .slice elems spare => uptoBulkAll elems + uptoBulkAll spare + 1
  | .agg parts => uptoBulkAll parts + 1
  | .iface _ d => uptoBulk d + 1
  | .map entries => uptoBulkEntries entries + 1
  | .held _ => 1
def uptoBulkAll {H : Type} : List (DataW H) → Nat
  | [] => 0
  | d :: r => uptoBulk d + uptoBulkAll r
def uptoBulkEntries {H : Type} : List (Lit × DataW H) → Nat
  | [] => 0
  | x :: r => uptoBulkEntry x + uptoBulkEntries r
def uptoBulkEntry {H : Type} : Lit × DataW H → Nat
  | (.string bytes, d) => bytes.length + uptoBulk d + 1
  | (_, d) => uptoBulk d + 1
 end
def uptoSmall : (H : Type) → List (DataW H) → Bool := fun _ ds => decide (uptoBulkAll ds ≤ 1048576)
def OpenSpec.upto (s : _root_.Go.ChangeSpec) : _root_.Go.OpenSpec := { _root_.Go.OpenSpec.ofChange s with cond := some uptoSmall }

/-- 'hoardinglaw05.EscapeTells', WHERE WHAT IT READS IS OF BULK AT MOST 1048576: true; the input reads as it did. -/
def escapeTellsUptoRow : OpenClaim := { program := "ytecfabjncghbnaa", sum := "9f06ccffbc9599a68e4229eba589b7bdafc9782db47f6bd6558128ff46863d7a", func := "hoarding/hoardinglaw05.EscapeTells", spec := "escapeTells", inPlace := ["internal/abi.NoEscape", "internal/bytealg.CountString", "internal/bytealg.IndexByteString", "internal/bytealg.IndexString"], named := ["internal/bytealg.MaxLen"], apart := false, narrowed := true }
def EscapeTellsUptoSaid : Prop := escapeTellsUptoRow.holds Try.pinned (OpenSpec.upto escapeTellsSpec)

/-- 'hoardinglaw04.CharrefTells', WHERE WHAT IT READS IS OF BULK AT MOST 1048576: true; the input reads as it did. -/
def charrefTellsUptoRow : OpenClaim := { program := "ytecfabjncghbnaa", sum := "9f06ccffbc9599a68e4229eba589b7bdafc9782db47f6bd6558128ff46863d7a", func := "hoarding/hoardinglaw04.CharrefTells", spec := "charrefTells", inPlace := ["internal/bytealg.IndexByteString"], apart := false, narrowed := true }
def CharrefTellsUptoSaid : Prop := charrefTellsUptoRow.holds Try.pinned (OpenSpec.upto charrefTellsSpec)

/-- 'hoardinglaw04.CharrefDecodes', WHERE WHAT IT READS IS OF BULK AT MOST 1048576: true; the input reads as it did. -/
def charrefDecodesUptoRow : OpenClaim := { program := "ytecfabjncghbnaa", sum := "9f06ccffbc9599a68e4229eba589b7bdafc9782db47f6bd6558128ff46863d7a", func := "hoarding/hoardinglaw04.CharrefDecodes", spec := "charrefDecodes", inPlace := ["internal/bytealg.IndexByteString"], apart := false, narrowed := true }
def CharrefDecodesUptoSaid : Prop := charrefDecodesUptoRow.holds Try.pinned (OpenSpec.upto charrefDecodesSpec)

/-- 'hoardinglaw03.WordsTell', WHERE WHAT IT READS IS OF BULK AT MOST 1048576: true; the input reads as it did. -/
def wordsTellUptoRow : OpenClaim := { program := "ytecfabjncghbnaa", sum := "9f06ccffbc9599a68e4229eba589b7bdafc9782db47f6bd6558128ff46863d7a", func := "hoarding/hoardinglaw03.WordsTell", spec := "wordsTell", inPlace := ["internal/abi.NoEscape", "internal/bytealg.MakeNoZero", "internal/bytealg.IndexByteString", "internal/bytealg.IndexString"], unfollowed := true, recurses := true, named := ["internal/bytealg.MaxLen"], apart := false, narrowed := true }
def WordsTellUptoSaid : Prop := wordsTellUptoRow.holds Try.pinned (OpenSpec.upto wordsTellSpec)

/-- 'hoardinglaw03.WordsBack', WHERE WHAT IT READS IS OF BULK AT MOST 1048576: true; the input reads as it did. -/
def wordsBackUptoRow : OpenClaim := { program := "ytecfabjncghbnaa", sum := "9f06ccffbc9599a68e4229eba589b7bdafc9782db47f6bd6558128ff46863d7a", func := "hoarding/hoardinglaw03.WordsBack", spec := "wordsBack", inPlace := ["internal/abi.NoEscape", "internal/bytealg.MakeNoZero", "internal/bytealg.IndexByteString", "internal/bytealg.IndexString"], unfollowed := true, recurses := true, named := ["internal/bytealg.MaxLen"], apart := false, narrowed := true }
def WordsBackUptoSaid : Prop := wordsBackUptoRow.holds Try.pinned (OpenSpec.upto wordsBackSpec)

/-- 'hoardinglaw05.EscapeBack', WHERE WHAT IT READS IS OF BULK AT MOST 1048576: true; the input reads as it did. -/
def escapeBackUptoRow : OpenClaim := { program := "ytecfabjncghbnaa", sum := "9f06ccffbc9599a68e4229eba589b7bdafc9782db47f6bd6558128ff46863d7a", func := "hoarding/hoardinglaw05.EscapeBack", spec := "escapeBack", inPlace := ["internal/abi.NoEscape", "internal/bytealg.CountString", "internal/bytealg.IndexByteString", "internal/bytealg.IndexString"], named := ["internal/bytealg.MaxLen"], apart := false, narrowed := true }
def EscapeBackUptoSaid : Prop := escapeBackUptoRow.holds Try.pinned (OpenSpec.upto escapeBackSpec)

end Rows
end Go.Proofs.Ytecfabjncghbnaa
