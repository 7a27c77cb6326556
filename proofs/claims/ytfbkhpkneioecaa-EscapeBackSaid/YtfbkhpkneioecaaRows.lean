/-
  No cell of these rows narrows 'for every input' (looked for: loops, veiled, ifaces, maps, wideKeys, modest, calm, conditions, laid).
  DERIVED. THE GIVEN ROWS OF THIS SEAT. 10 by the template 'for every input the law returns true; each argument reads behind the call as it read before'; 0 by the template 'total and deterministic' (their statements: YtfbkhpkneioecaaTotals.lean).
  GIVEN WITH THE SEED: the statements are not yours to turn. If you find one false, say at which input.
  Laid BY PROGRAM, IN A SANDBOX (cutbox-rows.mjs): the forced cells as the released guide's own fill.sh prints them over the translation 927cc64f2badb70f… (all of the seat's roots in one cut). By AI agents, Wed Nov 11 2026. No macro, syntax, notation, axiom, sorry.
-/
import Derived.Test.YtfbkhpkneioecaaChecked
import GoSem.Claim
import GoSem.ClaimJoined
import GoSem.ClaimMapViews
import Derived.JoinedTies
import Derived.KernelRfl
namespace Go.Proofs.Ytfbkhpkneioecaa
/- THE CELL 'sum', in the pinned program and in every row, IS THE sha256 OF THE DUMP (.gsa) THAT YtfbkhpkneioecaaProg.lean LOADS. Nothing in Lean hashes anything: it is a label: what it is worth is what the hold of that sum in a sandbox is worth. -/
noncomputable def Try.pinned : Pinned := { name := "ytfbkhpkneioecaa", sum := "927cc64f2badb70f43a00ed96a05e33e94870889a3009bcee23904086e50d9e4", checked := Try.checked }
namespace Rows
def none {H : Type} : Left H := { results := [], args := [] }

/-- 'hoardinglaw05.EscapeTells': WHATEVER THE INPUT: true; the input reads as it did. -/
def escapeTellsSpec : ChangeSpec := { name := "escapeTells", fn := fun _ => fun
  | [d] => { results := [.lit (.bool true)], args := [d] }
  | _ => none }
def escapeTellsRow : OpenClaim := { program := "ytfbkhpkneioecaa", sum := "927cc64f2badb70f43a00ed96a05e33e94870889a3009bcee23904086e50d9e4", func := "hoarding/hoardinglaw05.EscapeTells", spec := "escapeTells", inPlace := ["internal/abi.NoEscape", "internal/bytealg.CountString", "internal/bytealg.IndexByteString", "internal/bytealg.IndexString"], named := ["internal/bytealg.MaxLen"], apart := false }
def EscapeTellsSaid : Prop := escapeTellsRow.holds Try.pinned (OpenSpec.ofChange escapeTellsSpec)

/-- ITS FALSE NEIGHBOUR: 'it returns false'. Refute it at one input. -/
def escapeTellsWrong : ChangeSpec := { name := "escapeTells", fn := fun _ => fun
  | [d] => { results := [.lit (.bool false)], args := [d] }
  | _ => none }
def EscapeTellsWrongFalsely : Prop := escapeTellsRow.holds Try.pinned (OpenSpec.ofChange escapeTellsWrong)

/-- 'hoardinglaw12.TreeUps': WHATEVER THE INPUT: true; the input reads as it did. -/
def treeUpsSpec : ChangeSpec := { name := "treeUps", fn := fun _ => fun
  | [d] => { results := [.lit (.bool true)], args := [d] }
  | _ => none }
def treeUpsRow : OpenClaim := { program := "ytfbkhpkneioecaa", sum := "927cc64f2badb70f43a00ed96a05e33e94870889a3009bcee23904086e50d9e4", func := "hoarding/hoardinglaw12.TreeUps", spec := "treeUps", inPlace := ["slices.overlaps[int]"], apart := false }
def TreeUpsSaid : Prop := treeUpsRow.holds Try.pinned (OpenSpec.ofChange treeUpsSpec)

/-- ITS FALSE NEIGHBOUR: 'it returns false'. Refute it at one input. -/
def treeUpsWrong : ChangeSpec := { name := "treeUps", fn := fun _ => fun
  | [d] => { results := [.lit (.bool false)], args := [d] }
  | _ => none }
def TreeUpsWrongFalsely : Prop := treeUpsRow.holds Try.pinned (OpenSpec.ofChange treeUpsWrong)

/-- 'hoardinglaw14.ShapeTells': WHATEVER THE INPUT: true; the input reads as it did. -/
def shapeTellsSpec : ChangeSpec := { name := "shapeTells", fn := fun _ => fun
  | [d1, d2, d3] => { results := [.lit (.bool true)], args := [d1, d2, d3] }
  | _ => none }
def shapeTellsRow : OpenClaim := { program := "ytfbkhpkneioecaa", sum := "927cc64f2badb70f43a00ed96a05e33e94870889a3009bcee23904086e50d9e4", func := "hoarding/hoardinglaw14.ShapeTells", spec := "shapeTells", inPlace := ["slices.overlaps[int]"], unfollowed := true, recurses := true, apart := false }
def ShapeTellsSaid : Prop := shapeTellsRow.holds Try.pinned (OpenSpec.ofChange shapeTellsSpec)

/-- ITS FALSE NEIGHBOUR: 'it returns false'. Refute it at one input. -/
def shapeTellsWrong : ChangeSpec := { name := "shapeTells", fn := fun _ => fun
  | [d1, d2, d3] => { results := [.lit (.bool false)], args := [d1, d2, d3] }
  | _ => none }
def ShapeTellsWrongFalsely : Prop := shapeTellsRow.holds Try.pinned (OpenSpec.ofChange shapeTellsWrong)

/-- 'hoardinglaw14.ShapeTidies': WHATEVER THE INPUT: true; the input reads as it did. -/
def shapeTidiesSpec : ChangeSpec := { name := "shapeTidies", fn := fun _ => fun
  | [d] => { results := [.lit (.bool true)], args := [d] }
  | _ => none }
def shapeTidiesRow : OpenClaim := { program := "ytfbkhpkneioecaa", sum := "927cc64f2badb70f43a00ed96a05e33e94870889a3009bcee23904086e50d9e4", func := "hoarding/hoardinglaw14.ShapeTidies", spec := "shapeTidies", inPlace := ["slices.overlaps[int]"], unfollowed := true, recurses := true, apart := false }
def ShapeTidiesSaid : Prop := shapeTidiesRow.holds Try.pinned (OpenSpec.ofChange shapeTidiesSpec)

/-- ITS FALSE NEIGHBOUR: 'it returns false'. Refute it at one input. -/
def shapeTidiesWrong : ChangeSpec := { name := "shapeTidies", fn := fun _ => fun
  | [d] => { results := [.lit (.bool false)], args := [d] }
  | _ => none }
def ShapeTidiesWrongFalsely : Prop := shapeTidiesRow.holds Try.pinned (OpenSpec.ofChange shapeTidiesWrong)

/-- 'hoardinglaw14.ShapeSubs': WHATEVER THE INPUT: true; the input reads as it did. -/
def shapeSubsSpec : ChangeSpec := { name := "shapeSubs", fn := fun _ => fun
  | [d1, d2] => { results := [.lit (.bool true)], args := [d1, d2] }
  | _ => none }
def shapeSubsRow : OpenClaim := { program := "ytfbkhpkneioecaa", sum := "927cc64f2badb70f43a00ed96a05e33e94870889a3009bcee23904086e50d9e4", func := "hoarding/hoardinglaw14.ShapeSubs", spec := "shapeSubs", inPlace := ["slices.overlaps[int]"], unfollowed := true, recurses := true, apart := false }
def ShapeSubsSaid : Prop := shapeSubsRow.holds Try.pinned (OpenSpec.ofChange shapeSubsSpec)

/-- ITS FALSE NEIGHBOUR: 'it returns false'. Refute it at one input. -/
def shapeSubsWrong : ChangeSpec := { name := "shapeSubs", fn := fun _ => fun
  | [d1, d2] => { results := [.lit (.bool false)], args := [d1, d2] }
  | _ => none }
def ShapeSubsWrongFalsely : Prop := shapeSubsRow.holds Try.pinned (OpenSpec.ofChange shapeSubsWrong)

/-- 'hoardinglaw17.StateModes': WHATEVER THE INPUT: true; the input reads as it did. -/
def stateModesSpec : ChangeSpec := { name := "stateModes", fn := fun _ => fun
  | [d1, d2] => { results := [.lit (.bool true)], args := [d1, d2] }
  | _ => none }
def stateModesRow : OpenClaim := { program := "ytfbkhpkneioecaa", sum := "927cc64f2badb70f43a00ed96a05e33e94870889a3009bcee23904086e50d9e4", func := "hoarding/hoardinglaw17.StateModes", spec := "stateModes", inPlace := ["slices.overlaps[int]", "internal/bytealg.IndexByteString", "internal/bytealg.IndexString"], unfollowed := true, recurses := true, named := ["internal/bytealg.MaxLen"], apart := false }
def StateModesSaid : Prop := stateModesRow.holds Try.pinned (OpenSpec.ofChange stateModesSpec)

/-- ITS FALSE NEIGHBOUR: 'it returns false'. Refute it at one input. -/
def stateModesWrong : ChangeSpec := { name := "stateModes", fn := fun _ => fun
  | [d1, d2] => { results := [.lit (.bool false)], args := [d1, d2] }
  | _ => none }
def StateModesWrongFalsely : Prop := stateModesRow.holds Try.pinned (OpenSpec.ofChange stateModesWrong)

/-- 'hoardinglaw15.StackTells': WHATEVER THE INPUT: true; the input reads as it did. -/
def stackTellsSpec : ChangeSpec := { name := "stackTells", fn := fun _ => fun
  | [d1, d2, d3, d4, d5] => { results := [.lit (.bool true)], args := [d1, d2, d3, d4, d5] }
  | _ => none }
def stackTellsRow : OpenClaim := { program := "ytfbkhpkneioecaa", sum := "927cc64f2badb70f43a00ed96a05e33e94870889a3009bcee23904086e50d9e4", func := "hoarding/hoardinglaw15.StackTells", spec := "stackTells", inPlace := ["slices.overlaps[int]", "internal/bytealg.IndexByteString", "internal/bytealg.IndexString"], unfollowed := true, recurses := true, named := ["internal/bytealg.MaxLen"], apart := false }
def StackTellsSaid : Prop := stackTellsRow.holds Try.pinned (OpenSpec.ofChange stackTellsSpec)

/-- ITS FALSE NEIGHBOUR: 'it returns false'. Refute it at one input. -/
def stackTellsWrong : ChangeSpec := { name := "stackTells", fn := fun _ => fun
  | [d1, d2, d3, d4, d5] => { results := [.lit (.bool false)], args := [d1, d2, d3, d4, d5] }
  | _ => none }
def StackTellsWrongFalsely : Prop := stackTellsRow.holds Try.pinned (OpenSpec.ofChange stackTellsWrong)

/-- 'hoardinglaw15.StackBegins': WHATEVER THE INPUT: true; the input reads as it did. -/
def stackBeginsSpec : ChangeSpec := { name := "stackBegins", fn := fun _ => fun
  | [d1, d2, d3, d4] => { results := [.lit (.bool true)], args := [d1, d2, d3, d4] }
  | _ => none }
def stackBeginsRow : OpenClaim := { program := "ytfbkhpkneioecaa", sum := "927cc64f2badb70f43a00ed96a05e33e94870889a3009bcee23904086e50d9e4", func := "hoarding/hoardinglaw15.StackBegins", spec := "stackBegins", inPlace := ["slices.overlaps[int]", "internal/bytealg.IndexByteString", "internal/bytealg.IndexString"], unfollowed := true, recurses := true, named := ["internal/bytealg.MaxLen"], apart := false }
def StackBeginsSaid : Prop := stackBeginsRow.holds Try.pinned (OpenSpec.ofChange stackBeginsSpec)

/-- ITS FALSE NEIGHBOUR: 'it returns false'. Refute it at one input. -/
def stackBeginsWrong : ChangeSpec := { name := "stackBegins", fn := fun _ => fun
  | [d1, d2, d3, d4] => { results := [.lit (.bool false)], args := [d1, d2, d3, d4] }
  | _ => none }
def StackBeginsWrongFalsely : Prop := stackBeginsRow.holds Try.pinned (OpenSpec.ofChange stackBeginsWrong)

/-- 'hoardinglaw15.StackScopes': WHATEVER THE INPUT: true; the input reads as it did. -/
def stackScopesSpec : ChangeSpec := { name := "stackScopes", fn := fun _ => fun
  | [d1, d2, d3] => { results := [.lit (.bool true)], args := [d1, d2, d3] }
  | _ => none }
def stackScopesRow : OpenClaim := { program := "ytfbkhpkneioecaa", sum := "927cc64f2badb70f43a00ed96a05e33e94870889a3009bcee23904086e50d9e4", func := "hoarding/hoardinglaw15.StackScopes", spec := "stackScopes", inPlace := ["slices.overlaps[int]", "internal/bytealg.IndexByteString", "internal/bytealg.IndexString"], unfollowed := true, recurses := true, named := ["internal/bytealg.MaxLen"], apart := false }
def StackScopesSaid : Prop := stackScopesRow.holds Try.pinned (OpenSpec.ofChange stackScopesSpec)

/-- ITS FALSE NEIGHBOUR: 'it returns false'. Refute it at one input. -/
def stackScopesWrong : ChangeSpec := { name := "stackScopes", fn := fun _ => fun
  | [d1, d2, d3] => { results := [.lit (.bool false)], args := [d1, d2, d3] }
  | _ => none }
def StackScopesWrongFalsely : Prop := stackScopesRow.holds Try.pinned (OpenSpec.ofChange stackScopesWrong)

/-- 'hoardinglaw05.EscapeBack': WHATEVER THE INPUT: true; the input reads as it did. -/
def escapeBackSpec : ChangeSpec := { name := "escapeBack", fn := fun _ => fun
  | [d] => { results := [.lit (.bool true)], args := [d] }
  | _ => none }
def escapeBackRow : OpenClaim := { program := "ytfbkhpkneioecaa", sum := "927cc64f2badb70f43a00ed96a05e33e94870889a3009bcee23904086e50d9e4", func := "hoarding/hoardinglaw05.EscapeBack", spec := "escapeBack", inPlace := ["internal/abi.NoEscape", "internal/bytealg.CountString", "internal/bytealg.IndexByteString", "internal/bytealg.IndexString"], named := ["internal/bytealg.MaxLen"], apart := false }
def EscapeBackSaid : Prop := escapeBackRow.holds Try.pinned (OpenSpec.ofChange escapeBackSpec)

/-- ITS FALSE NEIGHBOUR: 'it returns false'. Refute it at one input. -/
def escapeBackWrong : ChangeSpec := { name := "escapeBack", fn := fun _ => fun
  | [d] => { results := [.lit (.bool false)], args := [d] }
  | _ => none }
def EscapeBackWrongFalsely : Prop := escapeBackRow.holds Try.pinned (OpenSpec.ofChange escapeBackWrong)

/- THE SECOND FORM. 'bulk': how many values and letters a reading holds, each counted each time it is reached (what is shared counts as often as it is met; a slice's spare places count too). A statement '..UptoSaid' is the law's where the arguments, and the package variables that the reading takes, are together of bulk at most 1048576: NARROWER than '..Said'. Prove '..Said' where nothing that the law and all that it calls make is longer than what came in: it says more and counts as full. Else prove '..UptoSaid'. A law counts once. -/
mutual
def uptoBulk {H : Type} : DataW H → Nat
  | .lit (.string bytes) => bytes.length + 1
  | .lit _ => 1
  | .nil => 1
  | .ptr d => uptoBulk d + 1
  | .slice elems spare => uptoBulkAll elems + uptoBulkAll spare + 1
  | .agg parts => uptoBulkAll parts + 1
  | .iface _ d => uptoBulk d + 1
  | .map entries => uptoBulkEntries entries + 1
  | .held _ => 1
def uptoBulkAll {H : Type} : List (DataW H) → Nat
  | [] => 0
  | d :: r => uptoBulk d + uptoBulkAll r
def uptoBulkEntries {H : Type} : List (Lit × DataW H) → Nat
  | [] => 0
  | x :: r => uptoBulkEntry x + uptoBulkEntries r
def uptoBulkEntry {H : Type} : Lit × DataW H → Nat
  | (.string bytes, d) => bytes.length + uptoBulk d + 1
  | (_, d) => uptoBulk d + 1
 end
def uptoSmall : (H : Type) → List (DataW H) → Bool := fun _ ds => decide (uptoBulkAll ds ≤ 1048576)
def OpenSpec.upto (s : _root_.Go.ChangeSpec) : _root_.Go.OpenSpec := { _root_.Go.OpenSpec.ofChange s with cond := some uptoSmall }

/-- 'hoardinglaw05.EscapeTells', WHERE WHAT IT READS IS OF BULK AT MOST 1048576: true; the input reads as it did. -/
def escapeTellsUptoRow : OpenClaim := { program := "ytfbkhpkneioecaa", sum := "927cc64f2badb70f43a00ed96a05e33e94870889a3009bcee23904086e50d9e4", func := "hoarding/hoardinglaw05.EscapeTells", spec := "escapeTells", inPlace := ["internal/abi.NoEscape", "internal/bytealg.CountString", "internal/bytealg.IndexByteString", "internal/bytealg.IndexString"], named := ["internal/bytealg.MaxLen"], apart := false, narrowed := true }
def EscapeTellsUptoSaid : Prop := escapeTellsUptoRow.holds Try.pinned (OpenSpec.upto escapeTellsSpec)

/-- 'hoardinglaw12.TreeUps', WHERE WHAT IT READS IS OF BULK AT MOST 1048576: true; the input reads as it did. -/
def treeUpsUptoRow : OpenClaim := { program := "ytfbkhpkneioecaa", sum := "927cc64f2badb70f43a00ed96a05e33e94870889a3009bcee23904086e50d9e4", func := "hoarding/hoardinglaw12.TreeUps", spec := "treeUps", inPlace := ["slices.overlaps[int]"], apart := false, narrowed := true }
def TreeUpsUptoSaid : Prop := treeUpsUptoRow.holds Try.pinned (OpenSpec.upto treeUpsSpec)

/-- 'hoardinglaw14.ShapeTells', WHERE WHAT IT READS IS OF BULK AT MOST 1048576: true; the input reads as it did. -/
def shapeTellsUptoRow : OpenClaim := { program := "ytfbkhpkneioecaa", sum := "927cc64f2badb70f43a00ed96a05e33e94870889a3009bcee23904086e50d9e4", func := "hoarding/hoardinglaw14.ShapeTells", spec := "shapeTells", inPlace := ["slices.overlaps[int]"], unfollowed := true, recurses := true, apart := false, narrowed := true }
def ShapeTellsUptoSaid : Prop := shapeTellsUptoRow.holds Try.pinned (OpenSpec.upto shapeTellsSpec)

/-- 'hoardinglaw14.ShapeTidies', WHERE WHAT IT READS IS OF BULK AT MOST 1048576: true; the input reads as it did. -/
def shapeTidiesUptoRow : OpenClaim := { program := "ytfbkhpkneioecaa", sum := "927cc64f2badb70f43a00ed96a05e33e94870889a3009bcee23904086e50d9e4", func := "hoarding/hoardinglaw14.ShapeTidies", spec := "shapeTidies", inPlace := ["slices.overlaps[int]"], unfollowed := true, recurses := true, apart := false, narrowed := true }
def ShapeTidiesUptoSaid : Prop := shapeTidiesUptoRow.holds Try.pinned (OpenSpec.upto shapeTidiesSpec)

/-- 'hoardinglaw14.ShapeSubs', WHERE WHAT IT READS IS OF BULK AT MOST 1048576: true; the input reads as it did. -/
def shapeSubsUptoRow : OpenClaim := { program := "ytfbkhpkneioecaa", sum := "927cc64f2badb70f43a00ed96a05e33e94870889a3009bcee23904086e50d9e4", func := "hoarding/hoardinglaw14.ShapeSubs", spec := "shapeSubs", inPlace := ["slices.overlaps[int]"], unfollowed := true, recurses := true, apart := false, narrowed := true }
def ShapeSubsUptoSaid : Prop := shapeSubsUptoRow.holds Try.pinned (OpenSpec.upto shapeSubsSpec)

/-- 'hoardinglaw17.StateModes', WHERE WHAT IT READS IS OF BULK AT MOST 1048576: true; the input reads as it did. -/
def stateModesUptoRow : OpenClaim := { program := "ytfbkhpkneioecaa", sum := "927cc64f2badb70f43a00ed96a05e33e94870889a3009bcee23904086e50d9e4", func := "hoarding/hoardinglaw17.StateModes", spec := "stateModes", inPlace := ["slices.overlaps[int]", "internal/bytealg.IndexByteString", "internal/bytealg.IndexString"], unfollowed := true, recurses := true, named := ["internal/bytealg.MaxLen"], apart := false, narrowed := true }
def StateModesUptoSaid : Prop := stateModesUptoRow.holds Try.pinned (OpenSpec.upto stateModesSpec)

/-- 'hoardinglaw15.StackTells', WHERE WHAT IT READS IS OF BULK AT MOST 1048576: true; the input reads as it did. -/
def stackTellsUptoRow : OpenClaim := { program := "ytfbkhpkneioecaa", sum := "927cc64f2badb70f43a00ed96a05e33e94870889a3009bcee23904086e50d9e4", func := "hoarding/hoardinglaw15.StackTells", spec := "stackTells", inPlace := ["slices.overlaps[int]", "internal/bytealg.IndexByteString", "internal/bytealg.IndexString"], unfollowed := true, recurses := true, named := ["internal/bytealg.MaxLen"], apart := false, narrowed := true }
def StackTellsUptoSaid : Prop := stackTellsUptoRow.holds Try.pinned (OpenSpec.upto stackTellsSpec)

/-- 'hoardinglaw15.StackBegins', WHERE WHAT IT READS IS OF BULK AT MOST 1048576: true; the input reads as it did. -/
def stackBeginsUptoRow : OpenClaim := { program := "ytfbkhpkneioecaa", sum := "927cc64f2badb70f43a00ed96a05e33e94870889a3009bcee23904086e50d9e4", func := "hoarding/hoardinglaw15.StackBegins", spec := "stackBegins", inPlace := ["slices.overlaps[int]", "internal/bytealg.IndexByteString", "internal/bytealg.IndexString"], unfollowed := true, recurses := true, named := ["internal/bytealg.MaxLen"], apart := false, narrowed := true }
def StackBeginsUptoSaid : Prop := stackBeginsUptoRow.holds Try.pinned (OpenSpec.upto stackBeginsSpec)

/-- 'hoardinglaw15.StackScopes', WHERE WHAT IT READS IS OF BULK AT MOST 1048576: true; the input reads as it did. -/
def stackScopesUptoRow : OpenClaim := { program := "ytfbkhpkneioecaa", sum := "927cc64f2badb70f43a00ed96a05e33e94870889a3009bcee23904086e50d9e4", func := "hoarding/hoardinglaw15.StackScopes", spec := "stackScopes", inPlace := ["slices.overlaps[int]", "internal/bytealg.IndexByteString", "internal/bytealg.IndexString"], unfollowed := true, recurses := true, named := ["internal/bytealg.MaxLen"], apart := false, narrowed := true }
def StackScopesUptoSaid : Prop := stackScopesUptoRow.holds Try.pinned (OpenSpec.upto stackScopesSpec)

/-- 'hoardinglaw05.EscapeBack', WHERE WHAT IT READS IS OF BULK AT MOST 1048576: true; the input reads as it did. -/
def escapeBackUptoRow : OpenClaim := { program := "ytfbkhpkneioecaa", sum := "927cc64f2badb70f43a00ed96a05e33e94870889a3009bcee23904086e50d9e4", func := "hoarding/hoardinglaw05.EscapeBack", spec := "escapeBack", inPlace := ["internal/abi.NoEscape", "internal/bytealg.CountString", "internal/bytealg.IndexByteString", "internal/bytealg.IndexString"], named := ["internal/bytealg.MaxLen"], apart := false, narrowed := true }
def EscapeBackUptoSaid : Prop := escapeBackUptoRow.holds Try.pinned (OpenSpec.upto escapeBackSpec)

end Rows
end Go.Proofs.Ytfbkhpkneioecaa
