/-
  No cell of these rows narrows 'for every input' (looked for: loops, veiled, ifaces, maps, wideKeys, modest, calm, conditions, laid).
  DERIVED. THE GIVEN ROWS OF THIS SEAT. 2 by the template 'for every input the law returns true; each argument reads behind the call as it read before'; 0 by the template 'total and deterministic' (their statements: YtfjggnjfifbbgaaTotals.lean).
  GIVEN WITH THE SEED: the statements are not yours to turn. If you find one false, say at which input.
  Laid BY PROGRAM, IN A SANDBOX (cutbox-rows.mjs): the forced cells as the released guide's own fill.sh prints them over the translation f544e20d4a2831d0… (all of the seat's roots in one cut). By AI agents, Wed Nov 11 2026. No macro, syntax, notation, axiom, sorry.
-/
import Derived.Test.YtfjggnjfifbbgaaChecked
import GoSem.Claim
import GoSem.ClaimJoined
import GoSem.ClaimMapViews
import Derived.JoinedTies
import Derived.KernelRfl
namespace Go.Proofs.Ytfjggnjfifbbgaa
/- THE CELL 'sum', in the pinned program and in every row, IS THE sha256 OF THE DUMP (.gsa) THAT YtfjggnjfifbbgaaProg.lean LOADS. Nothing in Lean hashes anything: it is a label: what it is worth is what the hold of that sum in a sandbox is worth. -/
noncomputable def Try.pinned : Pinned := { name := "ytfjggnjfifbbgaa", sum := "f544e20d4a2831d0b528bed1eb934f8f31460d161ca4f7a0c8e25280734302c6", checked := Try.checked }
namespace Rows
def none {H : Type} : Left H := { results := [], args := [] }

/-- 'hoardinglaw06.KindsTell': WHATEVER THE INPUT: true; the input reads as it did. -/
def kindsTellSpec : ChangeSpec := { name := "kindsTell", fn := fun _ => fun
  | [d1, d2, d3] => { results := [.lit (.bool true)], args := [d1, d2, d3] }
  | _ => none }
def kindsTellRow : OpenClaim := { program := "ytfjggnjfifbbgaa", sum := "f544e20d4a2831d0b528bed1eb934f8f31460d161ca4f7a0c8e25280734302c6", func := "hoarding/hoardinglaw06.KindsTell", spec := "kindsTell", inPlace := ["internal/bytealg.IndexByteString", "internal/bytealg.IndexString"], unfollowed := true, recurses := true, named := ["internal/bytealg.MaxLen"], apart := false }
def KindsTellSaid : Prop := kindsTellRow.holds Try.pinned (OpenSpec.ofChange kindsTellSpec)

/-- ITS FALSE NEIGHBOUR: 'it returns false'. Refute it at one input. -/
def kindsTellWrong : ChangeSpec := { name := "kindsTell", fn := fun _ => fun
  | [d1, d2, d3] => { results := [.lit (.bool false)], args := [d1, d2, d3] }
  | _ => none }
def KindsTellWrongFalsely : Prop := kindsTellRow.holds Try.pinned (OpenSpec.ofChange kindsTellWrong)

/-- 'hoardinglaw06.KindsAgree': WHATEVER THE INPUT: true; the input reads as it did. -/
def kindsAgreeSpec : ChangeSpec := { name := "kindsAgree", fn := fun _ => fun
  | [d1, d2] => { results := [.lit (.bool true)], args := [d1, d2] }
  | _ => none }
def kindsAgreeRow : OpenClaim := { program := "ytfjggnjfifbbgaa", sum := "f544e20d4a2831d0b528bed1eb934f8f31460d161ca4f7a0c8e25280734302c6", func := "hoarding/hoardinglaw06.KindsAgree", spec := "kindsAgree", inPlace := ["internal/bytealg.IndexByteString", "internal/bytealg.IndexString"], unfollowed := true, recurses := true, named := ["internal/bytealg.MaxLen"], apart := false }
def KindsAgreeSaid : Prop := kindsAgreeRow.holds Try.pinned (OpenSpec.ofChange kindsAgreeSpec)

/-- ITS FALSE NEIGHBOUR: 'it returns false'. Refute it at one input. -/
def kindsAgreeWrong : ChangeSpec := { name := "kindsAgree", fn := fun _ => fun
  | [d1, d2] => { results := [.lit (.bool false)], args := [d1, d2] }
  | _ => none }
def KindsAgreeWrongFalsely : Prop := kindsAgreeRow.holds Try.pinned (OpenSpec.ofChange kindsAgreeWrong)

/- THE SECOND FORM. 'bulk': how many values and letters a reading holds, each counted each time it is reached (what is shared counts as often as it is met; a slice's spare places count too). A statement '..UptoSaid' is the law's where the arguments, and the package variables that the reading takes, are together of bulk at most 1048576: NARROWER than '..Said'. Prove '..Said' where nothing that the law and all that it calls make is longer than what came in: it says more and counts as full. Else prove '..UptoSaid'. A law counts once. -/
mutual
def uptoBulk {H : Type} : DataW H → Nat
  | .lit (.string bytes) => bytes.length + 1
  | .lit _ => 1
  | .nil => 1
  | .ptr d => uptoBulk d + 1
  | .slice elems spare => uptoBulkAll elems + uptoBulkAll spare + 1
  | .agg parts => uptoBulkAll parts + 1
  | .iface _ d => uptoBulk d + 1
  | .map entries => uptoBulkEntries entries + 1
  | .held _ => 1
def uptoBulkAll {H : Type} : List (DataW H) → Nat
  | [] => 0
  | d :: r => uptoBulk d + uptoBulkAll r
def uptoBulkEntries {H : Type} : List (Lit × DataW H) → Nat
  | [] => 0
  | x :: r => uptoBulkEntry x + uptoBulkEntries r
def uptoBulkEntry {H : Type} : Lit × DataW H → Nat
  | (.string bytes, d) => bytes.length + uptoBulk d + 1
  | (_, d) => uptoBulk d + 1
 end
def uptoSmall : (H : Type) → List (DataW H) → Bool := fun _ ds => decide (uptoBulkAll ds ≤ 1048576)
def OpenSpec.upto (s : _root_.Go.ChangeSpec) : _root_.Go.OpenSpec := { _root_.Go.OpenSpec.ofChange s with cond := some uptoSmall }

/-- 'hoardinglaw06.KindsTell', WHERE WHAT IT READS IS OF BULK AT MOST 1048576: true; the input reads as it did. -/
def kindsTellUptoRow : OpenClaim := { program := "ytfjggnjfifbbgaa", sum := "f544e20d4a2831d0b528bed1eb934f8f31460d161ca4f7a0c8e25280734302c6", func := "hoarding/hoardinglaw06.KindsTell", spec := "kindsTell", inPlace := ["internal/bytealg.IndexByteString", "internal/bytealg.IndexString"], unfollowed := true, recurses := true, named := ["internal/bytealg.MaxLen"], apart := false, narrowed := true }
def KindsTellUptoSaid : Prop := kindsTellUptoRow.holds Try.pinned (OpenSpec.upto kindsTellSpec)

/-- 'hoardinglaw06.KindsAgree', WHERE WHAT IT READS IS OF BULK AT MOST 1048576: true; the input reads as it did. -/
def kindsAgreeUptoRow : OpenClaim := { program := "ytfjggnjfifbbgaa", sum := "f544e20d4a2831d0b528bed1eb934f8f31460d161ca4f7a0c8e25280734302c6", func := "hoarding/hoardinglaw06.KindsAgree", spec := "kindsAgree", inPlace := ["internal/bytealg.IndexByteString", "internal/bytealg.IndexString"], unfollowed := true, recurses := true, named := ["internal/bytealg.MaxLen"], apart := false, narrowed := true }
def KindsAgreeUptoSaid : Prop := kindsAgreeUptoRow.holds Try.pinned (OpenSpec.upto kindsAgreeSpec)

end Rows
end Go.Proofs.Ytfjggnjfifbbgaa
