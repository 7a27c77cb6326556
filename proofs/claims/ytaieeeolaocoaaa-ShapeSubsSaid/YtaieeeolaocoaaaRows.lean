/-
  No cell of these rows narrows 'for every input' (looked for: loops, veiled, ifaces, maps, wideKeys, modest, calm, conditions, laid).
  DERIVED. THE GIVEN ROWS OF THIS SEAT. 3 by the template 'for every input the law returns true; each argument reads behind the call as it read before'; 0 by the template 'total and deterministic' (their statements: YtaieeeolaocoaaaTotals.lean).
  GIVEN WITH THE SEED: the statements are not yours to turn. If you find one false, say at which input.
  Laid BY PROGRAM, IN A SANDBOX (cutbox-rows.mjs): the forced cells as the released guide's own fill.sh prints them over the translation 09e1e69457d563b1… (all of the seat's roots in one cut). By AI agents, Wed Nov 11 2026. No macro, syntax, notation, axiom, sorry.
-/
import Derived.Test.YtaieeeolaocoaaaChecked
import GoSem.Claim
import GoSem.ClaimJoined
import GoSem.ClaimMapViews
import Derived.JoinedTies
import Derived.KernelRfl
namespace Go.Proofs.Ytaieeeolaocoaaa
/- THE CELL 'sum', in the pinned program and in every row, IS THE sha256 OF THE DUMP (.gsa) THAT YtaieeeolaocoaaaProg.lean LOADS. Nothing in Lean hashes anything: it is a label: what it is worth is what the hold of that sum in a sandbox is worth. -/
noncomputable def Try.pinned : Pinned := { name := "ytaieeeolaocoaaa", sum := "09e1e69457d563b1ef255dd0a1c3ac851b8c51845be877cc2029e677b6b123a6", checked := Try.checked }
namespace Rows
def none {H : Type} : Left H := { results := [], args := [] }

/-- 'hoardinglaw14.ShapeTells': WHATEVER THE INPUT: true; the input reads as it did. -/
def shapeTellsSpec : ChangeSpec := { name := "shapeTells", fn := fun _ => fun
  | [d1, d2, d3] => { results := [.lit (.bool true)], args := [d1, d2, d3] }
  | _ => none }
def shapeTellsRow : OpenClaim := { program := "ytaieeeolaocoaaa", sum := "09e1e69457d563b1ef255dd0a1c3ac851b8c51845be877cc2029e677b6b123a6", func := "hoarding/hoardinglaw14.ShapeTells", spec := "shapeTells", inPlace := ["slices.overlaps[int]"], unfollowed := true, recurses := true, apart := false }
def ShapeTellsSaid : Prop := shapeTellsRow.holds Try.pinned (OpenSpec.ofChange shapeTellsSpec)

/-- ITS FALSE NEIGHBOUR: 'it returns false'. Refute it at one input. -/
def shapeTellsWrong : ChangeSpec := { name := "shapeTells", fn := fun _ => fun
  | [d1, d2, d3] => { results := [.lit (.bool false)], args := [d1, d2, d3] }
  | _ => none }
def ShapeTellsWrongFalsely : Prop := shapeTellsRow.holds Try.pinned (OpenSpec.ofChange shapeTellsWrong)

/-- 'hoardinglaw14.ShapeTidies': WHATEVER THE INPUT: true; the input reads as it did. -/
def shapeTidiesSpec : ChangeSpec := { name := "shapeTidies", fn := fun _ => fun
  | [d] => { results := [.lit (.bool true)], args := [d] }
  | _ => none }
def shapeTidiesRow : OpenClaim := { program := "ytaieeeolaocoaaa", sum := "09e1e69457d563b1ef255dd0a1c3ac851b8c51845be877cc2029e677b6b123a6", func := "hoarding/hoardinglaw14.ShapeTidies", spec := "shapeTidies", inPlace := ["slices.overlaps[int]"], unfollowed := true, recurses := true, apart := false }
def ShapeTidiesSaid : Prop := shapeTidiesRow.holds Try.pinned (OpenSpec.ofChange shapeTidiesSpec)

/-- ITS FALSE NEIGHBOUR: 'it returns false'. Refute it at one input. -/
def shapeTidiesWrong : ChangeSpec := { name := "shapeTidies", fn := fun _ => fun
  | [d] => { results := [.lit (.bool false)], args := [d] }
  | _ => none }
def ShapeTidiesWrongFalsely : Prop := shapeTidiesRow.holds Try.pinned (OpenSpec.ofChange shapeTidiesWrong)

/-- 'hoardinglaw14.ShapeSubs': WHATEVER THE INPUT: true; the input reads as it did. -/
def shapeSubsSpec : ChangeSpec := { name := "shapeSubs", fn := fun _ => fun
  | [d1, d2] => { results := [.lit (.bool true)], args := [d1, d2] }
  | _ => none }
def shapeSubsRow : OpenClaim := { program := "ytaieeeolaocoaaa", sum := "09e1e69457d563b1ef255dd0a1c3ac851b8c51845be877cc2029e677b6b123a6", func := "hoarding/hoardinglaw14.ShapeSubs", spec := "shapeSubs", inPlace := ["slices.overlaps[int]"], unfollowed := true, recurses := true, apart := false }
def ShapeSubsSaid : Prop := shapeSubsRow.holds Try.pinned (OpenSpec.ofChange shapeSubsSpec)

/-- ITS FALSE NEIGHBOUR: 'it returns false'. Refute it at one input. -/
def shapeSubsWrong : ChangeSpec := { name := "shapeSubs", fn := fun _ => fun
  | [d1, d2] => { results := [.lit (.bool false)], args := [d1, d2] }
  | _ => none }
def ShapeSubsWrongFalsely : Prop := shapeSubsRow.holds Try.pinned (OpenSpec.ofChange shapeSubsWrong)

/- THE SECOND FORM. 'bulk': how many values and letters a reading holds, each counted each time it is reached (what is shared counts as often as it is met; a slice's spare places count too). A statement '..UptoSaid' is the law's where the arguments, and the package variables that the reading takes, are together of bulk at most 1048576: NARROWER than '..Said'. Prove '..Said' where nothing that the law and all that it calls make is longer than what came in: it says more and counts as full. Else prove '..UptoSaid'. A law counts once. -/
mutual
def uptoBulk {H : Type} : DataW H → Nat
  | .lit (.string bytes) => bytes.length + 1
  | .lit _ => 1
  | .nil => 1
  | .ptr d => uptoBulk d + 1
  | .slice elems spare => uptoBulkAll elems + uptoBulkAll spare + 1
  | .agg parts => uptoBulkAll parts + 1
  | .iface _ d => uptoBulk d + 1
  | .map entries => uptoBulkEntries entries + 1
  | .held _ => 1
def uptoBulkAll {H : Type} : List (DataW H) → Nat
  | [] => 0
  | d :: r => uptoBulk d + uptoBulkAll r
def uptoBulkEntries {H : Type} : List (Lit × DataW H) → Nat
  | [] => 0
  | x :: r => uptoBulkEntry x + uptoBulkEntries r
def uptoBulkEntry {H : Type} : Lit × DataW H → Nat
  | (.string bytes, d) => bytes.length + uptoBulk d + 1
  | (_, d) => uptoBulk d + 1
 end
def uptoSmall : (H : Type) → List (DataW H) → Bool := fun _ ds => decide (uptoBulkAll ds ≤ 1048576)
def OpenSpec.upto (s : _root_.Go.ChangeSpec) : _root_.Go.OpenSpec := { _root_.Go.OpenSpec.ofChange s with cond := some uptoSmall }

/-- 'hoardinglaw14.ShapeTells', WHERE WHAT IT READS IS OF BULK AT MOST 1048576: true; the input reads as it did. -/
def shapeTellsUptoRow : OpenClaim := { program := "ytaieeeolaocoaaa", sum := "09e1e69457d563b1ef255dd0a1c3ac851b8c51845be877cc2029e677b6b123a6", func := "hoarding/hoardinglaw14.ShapeTells", spec := "shapeTells", inPlace := ["slices.overlaps[int]"], unfollowed := true, recurses := true, apart := false, narrowed := true }
def ShapeTellsUptoSaid : Prop := shapeTellsUptoRow.holds Try.pinned (OpenSpec.upto shapeTellsSpec)

/-- 'hoardinglaw14.ShapeTidies', WHERE WHAT IT READS IS OF BULK AT MOST 1048576: true; the input reads as it did. -/
def shapeTidiesUptoRow : OpenClaim := { program := "ytaieeeolaocoaaa", sum := "09e1e69457d563b1ef255dd0a1c3ac851b8c51845be877cc2029e677b6b123a6", func := "hoarding/hoardinglaw14.ShapeTidies", spec := "shapeTidies", inPlace := ["slices.overlaps[int]"], unfollowed := true, recurses := true, apart := false, narrowed := true }
def ShapeTidiesUptoSaid : Prop := shapeTidiesUptoRow.holds Try.pinned (OpenSpec.upto shapeTidiesSpec)

/-- 'hoardinglaw14.ShapeSubs', WHERE WHAT IT READS IS OF BULK AT MOST 1048576: true; the input reads as it did. -/
def shapeSubsUptoRow : OpenClaim := { program := "ytaieeeolaocoaaa", sum := "09e1e69457d563b1ef255dd0a1c3ac851b8c51845be877cc2029e677b6b123a6", func := "hoarding/hoardinglaw14.ShapeSubs", spec := "shapeSubs", inPlace := ["slices.overlaps[int]"], unfollowed := true, recurses := true, apart := false, narrowed := true }
def ShapeSubsUptoSaid : Prop := shapeSubsUptoRow.holds Try.pinned (OpenSpec.upto shapeSubsSpec)

end Rows
end Go.Proofs.Ytaieeeolaocoaaa
