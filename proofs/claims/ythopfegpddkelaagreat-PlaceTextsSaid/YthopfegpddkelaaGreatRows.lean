/-
  No cell of these rows narrows 'for every input' (looked for: loops, veiled, ifaces, maps, wideKeys, modest, calm, conditions, laid).
  DERIVED. THE GIVEN ROWS OF THIS SEAT. 4 by the template 'for every input the law returns true; each argument reads behind the call as it read before'; 0 by the template 'total and deterministic' (their statements: YthopfegpddkelaaGreatTotals.lean).
  GIVEN WITH THE SEED: the statements are not yours to turn. If you find one false, say at which input.
  Laid BY PROGRAM, IN A SANDBOX (cutbox-rows.mjs): the forced cells as the released guide's own fill.sh prints them over the translation 81ccacd44d3e11fd… (all of the seat's roots in one cut). By AI agents, Wed Nov 11 2026. No macro, syntax, notation, axiom, sorry.
-/
import Derived.Test.YthopfegpddkelaaGreatChecked
import GoSem.Claim
import GoSem.ClaimJoined
import GoSem.ClaimMapViews
import Derived.JoinedTies
import Derived.KernelRfl
namespace Go.Proofs.YthopfegpddkelaaGreat
/- THE CELL 'sum', in the pinned program and in every row, IS THE sha256 OF THE DUMP (.gsa) THAT YthopfegpddkelaaGreatProg.lean LOADS. Nothing in Lean hashes anything: it is a label: what it is worth is what the hold of that sum in a sandbox is worth. -/
noncomputable def Tryz.pinned : Pinned := { name := "ythopfegpddkelaagreat", sum := "81ccacd44d3e11fd4d49bba838eeed39a9e6eb75296fcbe0b66f7d3c7aa70ea5", checked := Tryz.checked }
namespace Rows
def none {H : Type} : Left H := { results := [], args := [] }

/-- 'hoardinglaw18.PlaceJoins': WHATEVER THE INPUT: true; the input reads as it did. -/
def placeJoinsSpec : ChangeSpec := { name := "placeJoins", fn := fun _ => fun
  | [d1, d2] => { results := [.lit (.bool true)], args := [d1, d2] }
  | _ => none }
def placeJoinsRow : OpenClaim := { program := "ythopfegpddkelaagreat", sum := "81ccacd44d3e11fd4d49bba838eeed39a9e6eb75296fcbe0b66f7d3c7aa70ea5", func := "hoarding/hoardinglaw18.PlaceJoins", spec := "placeJoins", inPlace := ["slices.overlaps[int]", "internal/bytealg.IndexByteString", "internal/bytealg.IndexString"], unfollowed := true, recurses := true, named := ["internal/bytealg.MaxLen"], apart := false }
def PlaceJoinsSaid : Prop := placeJoinsRow.holds Tryz.pinned (OpenSpec.ofChange placeJoinsSpec)

/-- ITS FALSE NEIGHBOUR: 'it returns false'. Refute it at one input. -/
def placeJoinsWrong : ChangeSpec := { name := "placeJoins", fn := fun _ => fun
  | [d1, d2] => { results := [.lit (.bool false)], args := [d1, d2] }
  | _ => none }
def PlaceJoinsWrongFalsely : Prop := placeJoinsRow.holds Tryz.pinned (OpenSpec.ofChange placeJoinsWrong)

/-- 'hoardinglaw18.PlaceTexts': WHATEVER THE INPUT: true; the input reads as it did. -/
def placeTextsSpec : ChangeSpec := { name := "placeTexts", fn := fun _ => fun
  | [d1, d2] => { results := [.lit (.bool true)], args := [d1, d2] }
  | _ => none }
def placeTextsRow : OpenClaim := { program := "ythopfegpddkelaagreat", sum := "81ccacd44d3e11fd4d49bba838eeed39a9e6eb75296fcbe0b66f7d3c7aa70ea5", func := "hoarding/hoardinglaw18.PlaceTexts", spec := "placeTexts", inPlace := ["slices.overlaps[int]", "internal/bytealg.IndexByteString", "internal/bytealg.IndexString"], unfollowed := true, recurses := true, named := ["internal/bytealg.MaxLen"], apart := false }
def PlaceTextsSaid : Prop := placeTextsRow.holds Tryz.pinned (OpenSpec.ofChange placeTextsSpec)

/-- ITS FALSE NEIGHBOUR: 'it returns false'. Refute it at one input. -/
def placeTextsWrong : ChangeSpec := { name := "placeTexts", fn := fun _ => fun
  | [d1, d2] => { results := [.lit (.bool false)], args := [d1, d2] }
  | _ => none }
def PlaceTextsWrongFalsely : Prop := placeTextsRow.holds Tryz.pinned (OpenSpec.ofChange placeTextsWrong)

/-- 'hoardinglaw18.PlacePlays': WHATEVER THE INPUT: true; the input reads as it did. -/
def placePlaysSpec : ChangeSpec := { name := "placePlays", fn := fun _ => fun
  | [d1, d2] => { results := [.lit (.bool true)], args := [d1, d2] }
  | _ => none }
def placePlaysRow : OpenClaim := { program := "ythopfegpddkelaagreat", sum := "81ccacd44d3e11fd4d49bba838eeed39a9e6eb75296fcbe0b66f7d3c7aa70ea5", func := "hoarding/hoardinglaw18.PlacePlays", spec := "placePlays", inPlace := ["slices.overlaps[int]", "internal/bytealg.IndexByteString", "internal/bytealg.IndexString"], unfollowed := true, recurses := true, named := ["internal/bytealg.MaxLen"], apart := false }
def PlacePlaysSaid : Prop := placePlaysRow.holds Tryz.pinned (OpenSpec.ofChange placePlaysSpec)

/-- ITS FALSE NEIGHBOUR: 'it returns false'. Refute it at one input. -/
def placePlaysWrong : ChangeSpec := { name := "placePlays", fn := fun _ => fun
  | [d1, d2] => { results := [.lit (.bool false)], args := [d1, d2] }
  | _ => none }
def PlacePlaysWrongFalsely : Prop := placePlaysRow.holds Tryz.pinned (OpenSpec.ofChange placePlaysWrong)

/-- 'hoardinglaw17.StateBegins': WHATEVER THE INPUT: true; the input reads as it did. -/
def stateBeginsSpec : ChangeSpec := { name := "stateBegins", fn := fun _ => fun
  | [d1, d2, d3] => { results := [.lit (.bool true)], args := [d1, d2, d3] }
  | _ => none }
def stateBeginsRow : OpenClaim := { program := "ythopfegpddkelaagreat", sum := "81ccacd44d3e11fd4d49bba838eeed39a9e6eb75296fcbe0b66f7d3c7aa70ea5", func := "hoarding/hoardinglaw17.StateBegins", spec := "stateBegins", inPlace := ["slices.overlaps[int]", "internal/bytealg.IndexByteString", "internal/bytealg.IndexString"], unfollowed := true, recurses := true, named := ["internal/bytealg.MaxLen"], apart := false }
def StateBeginsSaid : Prop := stateBeginsRow.holds Tryz.pinned (OpenSpec.ofChange stateBeginsSpec)

/-- ITS FALSE NEIGHBOUR: 'it returns false'. Refute it at one input. -/
def stateBeginsWrong : ChangeSpec := { name := "stateBegins", fn := fun _ => fun
  | [d1, d2, d3] => { results := [.lit (.bool false)], args := [d1, d2, d3] }
  | _ => none }
def StateBeginsWrongFalsely : Prop := stateBeginsRow.holds Tryz.pinned (OpenSpec.ofChange stateBeginsWrong)

/- THE SECOND FORM. 'bulk': how many values and letters a reading holds, each counted each time it is reached (what is shared counts as often as it is met; a slice's spare places count too). A statement '..UptoSaid' is the law's where the arguments, and the package variables that the reading takes, are together of bulk at most 1048576: NARROWER than '..Said'. Prove '..Said' where nothing that the law and all that it calls make is longer than what came in: it says more and counts as full. Else prove '..UptoSaid'. A law counts once. -/
mutual
def uptoBulk {H : Type} : DataW H → Nat
  | .lit (.string bytes) => bytes.length + 1
  | .lit _ => 1
  | .nil => 1
  | .ptr d => uptoBulk d + 1
  | .slice elems spare => uptoBulkAll elems + uptoBulkAll spare + 1
  | .agg parts => uptoBulkAll parts + 1
  | .iface _ d => uptoBulk d + 1
  | .map entries => uptoBulkEntries entries + 1
  | .held _ => 1
def uptoBulkAll {H : Type} : List (DataW H) → Nat
  | [] => 0
  | d :: r => uptoBulk d + uptoBulkAll r
def uptoBulkEntries {H : Type} : List (Lit × DataW H) → Nat
  | [] => 0
  | x :: r => uptoBulkEntry x + uptoBulkEntries r
def uptoBulkEntry {H : Type} : Lit × DataW H → Nat
  | (.string bytes, d) => bytes.length + uptoBulk d + 1
  | (_, d) => uptoBulk d + 1
 end
def uptoSmall : (H : Type) → List (DataW H) → Bool := fun _ ds => decide (uptoBulkAll ds ≤ 1048576)
def OpenSpec.upto (s : _root_.Go.ChangeSpec) : _root_.Go.OpenSpec := { _root_.Go.OpenSpec.ofChange s with cond := some uptoSmall }

/-- 'hoardinglaw18.PlaceJoins', WHERE WHAT IT READS IS OF BULK AT MOST 1048576: true; the input reads as it did. -/
def placeJoinsUptoRow : OpenClaim := { program := "ythopfegpddkelaagreat", sum := "81ccacd44d3e11fd4d49bba838eeed39a9e6eb75296fcbe0b66f7d3c7aa70ea5", func := "hoarding/hoardinglaw18.PlaceJoins", spec := "placeJoins", inPlace := ["slices.overlaps[int]", "internal/bytealg.IndexByteString", "internal/bytealg.IndexString"], unfollowed := true, recurses := true, named := ["internal/bytealg.MaxLen"], apart := false, narrowed := true }
def PlaceJoinsUptoSaid : Prop := placeJoinsUptoRow.holds Tryz.pinned (OpenSpec.upto placeJoinsSpec)

/-- 'hoardinglaw18.PlaceTexts', WHERE WHAT IT READS IS OF BULK AT MOST 1048576: true; the input reads as it did. -/
def placeTextsUptoRow : OpenClaim := { program := "ythopfegpddkelaagreat", sum := "81ccacd44d3e11fd4d49bba838eeed39a9e6eb75296fcbe0b66f7d3c7aa70ea5", func := "hoarding/hoardinglaw18.PlaceTexts", spec := "placeTexts", inPlace := ["slices.overlaps[int]", "internal/bytealg.IndexByteString", "internal/bytealg.IndexString"], unfollowed := true, recurses := true, named := ["internal/bytealg.MaxLen"], apart := false, narrowed := true }
def PlaceTextsUptoSaid : Prop := placeTextsUptoRow.holds Tryz.pinned (OpenSpec.upto placeTextsSpec)

/-- 'hoardinglaw18.PlacePlays', WHERE WHAT IT READS IS OF BULK AT MOST 1048576: true; the input reads as it did. -/
def placePlaysUptoRow : OpenClaim := { program := "ythopfegpddkelaagreat", sum := "81ccacd44d3e11fd4d49bba838eeed39a9e6eb75296fcbe0b66f7d3c7aa70ea5", func := "hoarding/hoardinglaw18.PlacePlays", spec := "placePlays", inPlace := ["slices.overlaps[int]", "internal/bytealg.IndexByteString", "internal/bytealg.IndexString"], unfollowed := true, recurses := true, named := ["internal/bytealg.MaxLen"], apart := false, narrowed := true }
def PlacePlaysUptoSaid : Prop := placePlaysUptoRow.holds Tryz.pinned (OpenSpec.upto placePlaysSpec)

/-- 'hoardinglaw17.StateBegins', WHERE WHAT IT READS IS OF BULK AT MOST 1048576: true; the input reads as it did. -/
def stateBeginsUptoRow : OpenClaim := { program := "ythopfegpddkelaagreat", sum := "81ccacd44d3e11fd4d49bba838eeed39a9e6eb75296fcbe0b66f7d3c7aa70ea5", func := "hoarding/hoardinglaw17.StateBegins", spec := "stateBegins", inPlace := ["slices.overlaps[int]", "internal/bytealg.IndexByteString", "internal/bytealg.IndexString"], unfollowed := true, recurses := true, named := ["internal/bytealg.MaxLen"], apart := false, narrowed := true }
def StateBeginsUptoSaid : Prop := stateBeginsUptoRow.holds Tryz.pinned (OpenSpec.upto stateBeginsSpec)

end Rows
end Go.Proofs.YthopfegpddkelaaGreat
