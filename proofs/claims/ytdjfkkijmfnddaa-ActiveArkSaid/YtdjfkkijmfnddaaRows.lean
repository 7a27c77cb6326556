/-
  No cell of these rows narrows 'for every input' (looked for: loops, veiled, ifaces, maps, wideKeys, modest, calm, conditions, laid).
  DERIVED. THE GIVEN ROWS OF THIS SEAT. 6 by the template 'for every input the law returns true; each argument reads behind the call as it read before'; 0 by the template 'total and deterministic' (their statements: YtdjfkkijmfnddaaTotals.lean).
  GIVEN WITH THE SEED: the statements are not yours to turn. If you find one false, say at which input.
  Laid BY PROGRAM, IN A SANDBOX (cutbox-rows.mjs): the forced cells as the released guide's own fill.sh prints them over the translation a0bcecd1dd349731… (all of the seat's roots in one cut). By AI agents, Wed Nov 11 2026. No macro, syntax, notation, axiom, sorry.
-/
import Derived.Test.YtdjfkkijmfnddaaChecked
import GoSem.Claim
import GoSem.ClaimJoined
import GoSem.ClaimMapViews
import Derived.JoinedTies
import Derived.KernelRfl
namespace Go.Proofs.Ytdjfkkijmfnddaa
/- THE CELL 'sum', in the pinned program and in every row, IS THE sha256 OF THE DUMP (.gsa) THAT YtdjfkkijmfnddaaProg.lean LOADS. Nothing in Lean hashes anything: it is a label: what it is worth is what the hold of that sum in a sandbox is worth. -/
noncomputable def Try.pinned : Pinned := { name := "ytdjfkkijmfnddaa", sum := "a0bcecd1dd349731e88e0342b36ff34a8695fa11ed1e07645e7ddb28334bcf3e", checked := Try.checked }
namespace Rows
def none {H : Type} : Left H := { results := [], args := [] }

/-- 'hoardinglaw16.ActiveTells': WHATEVER THE INPUT: true; the input reads as it did. -/
def activeTellsSpec : ChangeSpec := { name := "activeTells", fn := fun _ => fun
  | [d1, d2, d3, d4, d5] => { results := [.lit (.bool true)], args := [d1, d2, d3, d4, d5] }
  | _ => none }
def activeTellsRow : OpenClaim := { program := "ytdjfkkijmfnddaa", sum := "a0bcecd1dd349731e88e0342b36ff34a8695fa11ed1e07645e7ddb28334bcf3e", func := "hoarding/hoardinglaw16.ActiveTells", spec := "activeTells", inPlace := ["slices.overlaps[int]"], unfollowed := true, recurses := true, plainKeys := false, apart := false }
def ActiveTellsSaid : Prop := activeTellsRow.holds Try.pinned (OpenSpec.ofChange activeTellsSpec)

/-- ITS FALSE NEIGHBOUR: 'it returns false'. Refute it at one input. -/
def activeTellsWrong : ChangeSpec := { name := "activeTells", fn := fun _ => fun
  | [d1, d2, d3, d4, d5] => { results := [.lit (.bool false)], args := [d1, d2, d3, d4, d5] }
  | _ => none }
def ActiveTellsWrongFalsely : Prop := activeTellsRow.holds Try.pinned (OpenSpec.ofChange activeTellsWrong)

/-- 'hoardinglaw16.ActiveArk': WHATEVER THE INPUT: true; the input reads as it did. -/
def activeArkSpec : ChangeSpec := { name := "activeArk", fn := fun _ => fun
  | [d1, d2] => { results := [.lit (.bool true)], args := [d1, d2] }
  | _ => none }
def activeArkRow : OpenClaim := { program := "ytdjfkkijmfnddaa", sum := "a0bcecd1dd349731e88e0342b36ff34a8695fa11ed1e07645e7ddb28334bcf3e", func := "hoarding/hoardinglaw16.ActiveArk", spec := "activeArk", inPlace := ["slices.overlaps[int]"], unfollowed := true, recurses := true, plainKeys := false, apart := false }
def ActiveArkSaid : Prop := activeArkRow.holds Try.pinned (OpenSpec.ofChange activeArkSpec)

/-- ITS FALSE NEIGHBOUR: 'it returns false'. Refute it at one input. -/
def activeArkWrong : ChangeSpec := { name := "activeArk", fn := fun _ => fun
  | [d1, d2] => { results := [.lit (.bool false)], args := [d1, d2] }
  | _ => none }
def ActiveArkWrongFalsely : Prop := activeArkRow.holds Try.pinned (OpenSpec.ofChange activeArkWrong)

/-- 'hoardinglaw16.ActiveBack': WHATEVER THE INPUT: true; the input reads as it did. -/
def activeBackSpec : ChangeSpec := { name := "activeBack", fn := fun _ => fun
  | [d1, d2, d3, d4] => { results := [.lit (.bool true)], args := [d1, d2, d3, d4] }
  | _ => none }
def activeBackRow : OpenClaim := { program := "ytdjfkkijmfnddaa", sum := "a0bcecd1dd349731e88e0342b36ff34a8695fa11ed1e07645e7ddb28334bcf3e", func := "hoarding/hoardinglaw16.ActiveBack", spec := "activeBack", inPlace := ["slices.overlaps[int]"], unfollowed := true, recurses := true, plainKeys := false, apart := false }
def ActiveBackSaid : Prop := activeBackRow.holds Try.pinned (OpenSpec.ofChange activeBackSpec)

/-- ITS FALSE NEIGHBOUR: 'it returns false'. Refute it at one input. -/
def activeBackWrong : ChangeSpec := { name := "activeBack", fn := fun _ => fun
  | [d1, d2, d3, d4] => { results := [.lit (.bool false)], args := [d1, d2, d3, d4] }
  | _ => none }
def ActiveBackWrongFalsely : Prop := activeBackRow.holds Try.pinned (OpenSpec.ofChange activeBackWrong)

/-- 'hoardinglaw08.TagReads': WHATEVER THE INPUT: true; the input reads as it did. -/
def tagReadsSpec : ChangeSpec := { name := "tagReads", fn := fun _ => fun
  | [d1, d2] => { results := [.lit (.bool true)], args := [d1, d2] }
  | _ => none }
def tagReadsRow : OpenClaim := { program := "ytdjfkkijmfnddaa", sum := "a0bcecd1dd349731e88e0342b36ff34a8695fa11ed1e07645e7ddb28334bcf3e", func := "hoarding/hoardinglaw08.TagReads", spec := "tagReads", inPlace := ["internal/bytealg.IndexByteString"], unfollowed := true, recurses := true, plainKeys := false, apart := false }
def TagReadsSaid : Prop := tagReadsRow.holds Try.pinned (OpenSpec.ofChange tagReadsSpec)

/-- ITS FALSE NEIGHBOUR: 'it returns false'. Refute it at one input. -/
def tagReadsWrong : ChangeSpec := { name := "tagReads", fn := fun _ => fun
  | [d1, d2] => { results := [.lit (.bool false)], args := [d1, d2] }
  | _ => none }
def TagReadsWrongFalsely : Prop := tagReadsRow.holds Try.pinned (OpenSpec.ofChange tagReadsWrong)

/-- 'hoardinglaw08.TagStops': WHATEVER THE INPUT: true; the input reads as it did. -/
def tagStopsSpec : ChangeSpec := { name := "tagStops", fn := fun _ => fun
  | [d1, d2] => { results := [.lit (.bool true)], args := [d1, d2] }
  | _ => none }
def tagStopsRow : OpenClaim := { program := "ytdjfkkijmfnddaa", sum := "a0bcecd1dd349731e88e0342b36ff34a8695fa11ed1e07645e7ddb28334bcf3e", func := "hoarding/hoardinglaw08.TagStops", spec := "tagStops", inPlace := ["internal/bytealg.IndexByteString"], unfollowed := true, recurses := true, plainKeys := false, apart := false }
def TagStopsSaid : Prop := tagStopsRow.holds Try.pinned (OpenSpec.ofChange tagStopsSpec)

/-- ITS FALSE NEIGHBOUR: 'it returns false'. Refute it at one input. -/
def tagStopsWrong : ChangeSpec := { name := "tagStops", fn := fun _ => fun
  | [d1, d2] => { results := [.lit (.bool false)], args := [d1, d2] }
  | _ => none }
def TagStopsWrongFalsely : Prop := tagStopsRow.holds Try.pinned (OpenSpec.ofChange tagStopsWrong)

/-- 'hoardinglaw08.TagBack': WHATEVER THE INPUT: true; the input reads as it did. -/
def tagBackSpec : ChangeSpec := { name := "tagBack", fn := fun _ => fun
  | [d1, d2, d3, d4] => { results := [.lit (.bool true)], args := [d1, d2, d3, d4] }
  | _ => none }
def tagBackRow : OpenClaim := { program := "ytdjfkkijmfnddaa", sum := "a0bcecd1dd349731e88e0342b36ff34a8695fa11ed1e07645e7ddb28334bcf3e", func := "hoarding/hoardinglaw08.TagBack", spec := "tagBack", inPlace := ["internal/bytealg.IndexByteString", "internal/abi.NoEscape"], unfollowed := true, recurses := true, plainKeys := false, apart := false }
def TagBackSaid : Prop := tagBackRow.holds Try.pinned (OpenSpec.ofChange tagBackSpec)

/-- ITS FALSE NEIGHBOUR: 'it returns false'. Refute it at one input. -/
def tagBackWrong : ChangeSpec := { name := "tagBack", fn := fun _ => fun
  | [d1, d2, d3, d4] => { results := [.lit (.bool false)], args := [d1, d2, d3, d4] }
  | _ => none }
def TagBackWrongFalsely : Prop := tagBackRow.holds Try.pinned (OpenSpec.ofChange tagBackWrong)

/- THE SECOND FORM. 'bulk': how many values and letters a reading holds, each counted each time it is reached (what is shared counts as often as it is met; a slice's spare places count too). A statement '..UptoSaid' is the law's where the arguments, and the package variables that the reading takes, are together of bulk at most 1048576: NARROWER than '..Said'. Prove '..Said' where nothing that the law and all that it calls make is longer than what came in: it says more and counts as full. Else prove '..UptoSaid'. A law counts once. -/
mutual
def uptoBulk {H : Type} : DataW H → Nat
  | .lit (.string bytes) => bytes.length + 1
  | .lit _ => 1
  | .nil => 1
  | .ptr d => uptoBulk d + 1
  | .slice elems spare => uptoBulkAll elems + uptoBulkAll spare + 1
  | .agg parts => uptoBulkAll parts + 1
  | .iface _ d => uptoBulk d + 1
  | .map entries => uptoBulkEntries entries + 1
  | .held _ => 1
def uptoBulkAll {H : Type} : List (DataW H) → Nat
  | [] => 0
  | d :: r => uptoBulk d + uptoBulkAll r
def uptoBulkEntries {H : Type} : List (Lit × DataW H) → Nat
  | [] => 0
  | x :: r => uptoBulkEntry x + uptoBulkEntries r
def uptoBulkEntry {H : Type} : Lit × DataW H → Nat
  | (.string bytes, d) => bytes.length + uptoBulk d + 1
  | (_, d) => uptoBulk d + 1
 end
def uptoSmall : (H : Type) → List (DataW H) → Bool := fun _ ds => decide (uptoBulkAll ds ≤ 1048576)
def OpenSpec.upto (s : _root_.Go.ChangeSpec) : _root_.Go.OpenSpec := { _root_.Go.OpenSpec.ofChange s with cond := some uptoSmall }

/-- 'hoardinglaw16.ActiveTells', WHERE WHAT IT READS IS OF BULK AT MOST 1048576: true; the input reads as it did. -/
def activeTellsUptoRow : OpenClaim := { program := "ytdjfkkijmfnddaa", sum := "a0bcecd1dd349731e88e0342b36ff34a8695fa11ed1e07645e7ddb28334bcf3e", func := "hoarding/hoardinglaw16.ActiveTells", spec := "activeTells", inPlace := ["slices.overlaps[int]"], unfollowed := true, recurses := true, plainKeys := false, apart := false, narrowed := true }
def ActiveTellsUptoSaid : Prop := activeTellsUptoRow.holds Try.pinned (OpenSpec.upto activeTellsSpec)

/-- 'hoardinglaw16.ActiveArk', WHERE WHAT IT READS IS OF BULK AT MOST 1048576: true; the input reads as it did. -/
def activeArkUptoRow : OpenClaim := { program := "ytdjfkkijmfnddaa", sum := "a0bcecd1dd349731e88e0342b36ff34a8695fa11ed1e07645e7ddb28334bcf3e", func := "hoarding/hoardinglaw16.ActiveArk", spec := "activeArk", inPlace := ["slices.overlaps[int]"], unfollowed := true, recurses := true, plainKeys := false, apart := false, narrowed := true }
def ActiveArkUptoSaid : Prop := activeArkUptoRow.holds Try.pinned (OpenSpec.upto activeArkSpec)

/-- 'hoardinglaw16.ActiveBack', WHERE WHAT IT READS IS OF BULK AT MOST 1048576: true; the input reads as it did. -/
def activeBackUptoRow : OpenClaim := { program := "ytdjfkkijmfnddaa", sum := "a0bcecd1dd349731e88e0342b36ff34a8695fa11ed1e07645e7ddb28334bcf3e", func := "hoarding/hoardinglaw16.ActiveBack", spec := "activeBack", inPlace := ["slices.overlaps[int]"], unfollowed := true, recurses := true, plainKeys := false, apart := false, narrowed := true }
def ActiveBackUptoSaid : Prop := activeBackUptoRow.holds Try.pinned (OpenSpec.upto activeBackSpec)

/-- 'hoardinglaw08.TagReads', WHERE WHAT IT READS IS OF BULK AT MOST 1048576: true; the input reads as it did. -/
def tagReadsUptoRow : OpenClaim := { program := "ytdjfkkijmfnddaa", sum := "a0bcecd1dd349731e88e0342b36ff34a8695fa11ed1e07645e7ddb28334bcf3e", func := "hoarding/hoardinglaw08.TagReads", spec := "tagReads", inPlace := ["internal/bytealg.IndexByteString"], unfollowed := true, recurses := true, plainKeys := false, apart := false, narrowed := true }
def TagReadsUptoSaid : Prop := tagReadsUptoRow.holds Try.pinned (OpenSpec.upto tagReadsSpec)

/-- 'hoardinglaw08.TagStops', WHERE WHAT IT READS IS OF BULK AT MOST 1048576: true; the input reads as it did. -/
def tagStopsUptoRow : OpenClaim := { program := "ytdjfkkijmfnddaa", sum := "a0bcecd1dd349731e88e0342b36ff34a8695fa11ed1e07645e7ddb28334bcf3e", func := "hoarding/hoardinglaw08.TagStops", spec := "tagStops", inPlace := ["internal/bytealg.IndexByteString"], unfollowed := true, recurses := true, plainKeys := false, apart := false, narrowed := true }
def TagStopsUptoSaid : Prop := tagStopsUptoRow.holds Try.pinned (OpenSpec.upto tagStopsSpec)

/-- 'hoardinglaw08.TagBack', WHERE WHAT IT READS IS OF BULK AT MOST 1048576: true; the input reads as it did. -/
def tagBackUptoRow : OpenClaim := { program := "ytdjfkkijmfnddaa", sum := "a0bcecd1dd349731e88e0342b36ff34a8695fa11ed1e07645e7ddb28334bcf3e", func := "hoarding/hoardinglaw08.TagBack", spec := "tagBack", inPlace := ["internal/bytealg.IndexByteString", "internal/abi.NoEscape"], unfollowed := true, recurses := true, plainKeys := false, apart := false, narrowed := true }
def TagBackUptoSaid : Prop := tagBackUptoRow.holds Try.pinned (OpenSpec.upto tagBackSpec)

end Rows
end Go.Proofs.Ytdjfkkijmfnddaa
