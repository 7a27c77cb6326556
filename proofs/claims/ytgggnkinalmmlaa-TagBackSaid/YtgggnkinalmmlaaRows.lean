/-
  No cell of these rows narrows 'for every input' (looked for: loops, veiled, ifaces, maps, wideKeys, modest, calm, conditions, laid).
  DERIVED. THE GIVEN ROWS OF THIS SEAT. 3 by the template 'for every input the law returns true; each argument reads behind the call as it read before'; 0 by the template 'total and deterministic' (their statements: YtgggnkinalmmlaaTotals.lean).
  GIVEN WITH THE SEED: the statements are not yours to turn. If you find one false, say at which input.
  Laid BY PROGRAM, IN A SANDBOX (cutbox-rows.mjs): the forced cells as the released guide's own fill.sh prints them over the translation f9c8d28facb6f701… (all of the seat's roots in one cut). By AI agents, Wed Nov 11 2026. No macro, syntax, notation, axiom, sorry.
-/
import Derived.Test.YtgggnkinalmmlaaChecked
import GoSem.Claim
import GoSem.ClaimJoined
import GoSem.ClaimMapViews
import Derived.JoinedTies
import Derived.KernelRfl
namespace Go.Proofs.Ytgggnkinalmmlaa
/- THE CELL 'sum', in the pinned program and in every row, IS THE sha256 OF THE DUMP (.gsa) THAT YtgggnkinalmmlaaProg.lean LOADS. Nothing in Lean hashes anything: it is a label: what it is worth is what the hold of that sum in a sandbox is worth. -/
noncomputable def Try.pinned : Pinned := { name := "ytgggnkinalmmlaa", sum := "f9c8d28facb6f7013f68a5b365736d9193ef9bfb3afa8410994de67c3f49d47e", checked := Try.checked }
namespace Rows
def none {H : Type} : Left H := { results := [], args := [] }

/-- 'hoardinglaw08.TagReads': WHATEVER THE INPUT: true; the input reads as it did. -/
def tagReadsSpec : ChangeSpec := { name := "tagReads", fn := fun _ => fun
  | [d1, d2] => { results := [.lit (.bool true)], args := [d1, d2] }
  | _ => none }
def tagReadsRow : OpenClaim := { program := "ytgggnkinalmmlaa", sum := "f9c8d28facb6f7013f68a5b365736d9193ef9bfb3afa8410994de67c3f49d47e", func := "hoarding/hoardinglaw08.TagReads", spec := "tagReads", inPlace := ["internal/bytealg.IndexByteString"], unfollowed := true, recurses := true, apart := false }
def TagReadsSaid : Prop := tagReadsRow.holds Try.pinned (OpenSpec.ofChange tagReadsSpec)

/-- ITS FALSE NEIGHBOUR: 'it returns false'. Refute it at one input. -/
def tagReadsWrong : ChangeSpec := { name := "tagReads", fn := fun _ => fun
  | [d1, d2] => { results := [.lit (.bool false)], args := [d1, d2] }
  | _ => none }
def TagReadsWrongFalsely : Prop := tagReadsRow.holds Try.pinned (OpenSpec.ofChange tagReadsWrong)

/-- 'hoardinglaw08.TagStops': WHATEVER THE INPUT: true; the input reads as it did. -/
def tagStopsSpec : ChangeSpec := { name := "tagStops", fn := fun _ => fun
  | [d1, d2] => { results := [.lit (.bool true)], args := [d1, d2] }
  | _ => none }
def tagStopsRow : OpenClaim := { program := "ytgggnkinalmmlaa", sum := "f9c8d28facb6f7013f68a5b365736d9193ef9bfb3afa8410994de67c3f49d47e", func := "hoarding/hoardinglaw08.TagStops", spec := "tagStops", inPlace := ["internal/bytealg.IndexByteString"], unfollowed := true, recurses := true, apart := false }
def TagStopsSaid : Prop := tagStopsRow.holds Try.pinned (OpenSpec.ofChange tagStopsSpec)

/-- ITS FALSE NEIGHBOUR: 'it returns false'. Refute it at one input. -/
def tagStopsWrong : ChangeSpec := { name := "tagStops", fn := fun _ => fun
  | [d1, d2] => { results := [.lit (.bool false)], args := [d1, d2] }
  | _ => none }
def TagStopsWrongFalsely : Prop := tagStopsRow.holds Try.pinned (OpenSpec.ofChange tagStopsWrong)

/-- 'hoardinglaw08.TagBack': WHATEVER THE INPUT: true; the input reads as it did. -/
def tagBackSpec : ChangeSpec := { name := "tagBack", fn := fun _ => fun
  | [d1, d2, d3, d4] => { results := [.lit (.bool true)], args := [d1, d2, d3, d4] }
  | _ => none }
def tagBackRow : OpenClaim := { program := "ytgggnkinalmmlaa", sum := "f9c8d28facb6f7013f68a5b365736d9193ef9bfb3afa8410994de67c3f49d47e", func := "hoarding/hoardinglaw08.TagBack", spec := "tagBack", inPlace := ["internal/bytealg.IndexByteString", "internal/abi.NoEscape"], unfollowed := true, recurses := true, apart := false }
def TagBackSaid : Prop := tagBackRow.holds Try.pinned (OpenSpec.ofChange tagBackSpec)

/-- ITS FALSE NEIGHBOUR: 'it returns false'. Refute it at one input. -/
def tagBackWrong : ChangeSpec := { name := "tagBack", fn := fun _ => fun
  | [d1, d2, d3, d4] => { results := [.lit (.bool false)], args := [d1, d2, d3, d4] }
  | _ => none }
def TagBackWrongFalsely : Prop := tagBackRow.holds Try.pinned (OpenSpec.ofChange tagBackWrong)

/- THE SECOND FORM. 'bulk': how many values and letters a reading holds, each counted each time it is reached (what is shared counts as often as it is met; a slice's spare places count too). A statement '..UptoSaid' is the law's where the arguments, and the package variables that the reading takes, are together of bulk at most 1048576: NARROWER than '..Said'. Prove '..Said' where nothing that the law and all that it calls make is longer than what came in: it says more and counts as full. Else prove '..UptoSaid'. A law counts once. -/
mutual
def uptoBulk {H : Type} : DataW H → Nat
  | .lit (.string bytes) => bytes.length + 1
  | .lit _ => 1
  | .nil => 1
  | .ptr d => uptoBulk d + 1
  | .slice elems spare => uptoBulkAll elems + uptoBulkAll spare + 1
  | .agg parts => uptoBulkAll parts + 1
  | .iface _ d => uptoBulk d + 1
  | .map entries => uptoBulkEntries entries + 1
  | .held _ => 1
def uptoBulkAll {H : Type} : List (DataW H) → Nat
  | [] => 0
  | d :: r => uptoBulk d + uptoBulkAll r
def uptoBulkEntries {H : Type} : List (Lit × DataW H) → Nat
  | [] => 0
  | x :: r => uptoBulkEntry x + uptoBulkEntries r
def uptoBulkEntry {H : Type} : Lit × DataW H → Nat
  | (.string bytes, d) => bytes.length + uptoBulk d + 1
  | (_, d) => uptoBulk d + 1
 end
def uptoSmall : (H : Type) → List (DataW H) → Bool := fun _ ds => decide (uptoBulkAll ds ≤ 1048576)
def OpenSpec.upto (s : _root_.Go.ChangeSpec) : _root_.Go.OpenSpec := { _root_.Go.OpenSpec.ofChange s with cond := some uptoSmall }

/-- 'hoardinglaw08.TagReads', WHERE WHAT IT READS IS OF BULK AT MOST 1048576: true; the input reads as it did. -/
def tagReadsUptoRow : OpenClaim := { program := "ytgggnkinalmmlaa", sum := "f9c8d28facb6f7013f68a5b365736d9193ef9bfb3afa8410994de67c3f49d47e", func := "hoarding/hoardinglaw08.TagReads", spec := "tagReads", inPlace := ["internal/bytealg.IndexByteString"], unfollowed := true, recurses := true, apart := false, narrowed := true }
def TagReadsUptoSaid : Prop := tagReadsUptoRow.holds Try.pinned (OpenSpec.upto tagReadsSpec)

/-- 'hoardinglaw08.TagStops', WHERE WHAT IT READS IS OF BULK AT MOST 1048576: true; the input reads as it did. -/
def tagStopsUptoRow : OpenClaim := { program := "ytgggnkinalmmlaa", sum := "f9c8d28facb6f7013f68a5b365736d9193ef9bfb3afa8410994de67c3f49d47e", func := "hoarding/hoardinglaw08.TagStops", spec := "tagStops", inPlace := ["internal/bytealg.IndexByteString"], unfollowed := true, recurses := true, apart := false, narrowed := true }
def TagStopsUptoSaid : Prop := tagStopsUptoRow.holds Try.pinned (OpenSpec.upto tagStopsSpec)

/-- 'hoardinglaw08.TagBack', WHERE WHAT IT READS IS OF BULK AT MOST 1048576: true; the input reads as it did. -/
def tagBackUptoRow : OpenClaim := { program := "ytgggnkinalmmlaa", sum := "f9c8d28facb6f7013f68a5b365736d9193ef9bfb3afa8410994de67c3f49d47e", func := "hoarding/hoardinglaw08.TagBack", spec := "tagBack", inPlace := ["internal/bytealg.IndexByteString", "internal/abi.NoEscape"], unfollowed := true, recurses := true, apart := false, narrowed := true }
def TagBackUptoSaid : Prop := tagBackUptoRow.holds Try.pinned (OpenSpec.upto tagBackSpec)

end Rows
end Go.Proofs.Ytgggnkinalmmlaa
