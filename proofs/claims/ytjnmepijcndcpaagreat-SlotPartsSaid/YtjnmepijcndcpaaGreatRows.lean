/-
  No cell of these rows narrows 'for every input' (looked for: loops, veiled, ifaces, maps, wideKeys, modest, calm, conditions, laid).
  DERIVED. THE GIVEN ROWS OF THIS SEAT. 8 by the template 'for every input the law returns true; each argument reads behind the call as it read before'; 0 by the template 'total and deterministic' (their statements: YtjnmepijcndcpaaGreatTotals.lean).
  GIVEN WITH THE SEED: the statements are not yours to turn. If you find one false, say at which input.
  Laid BY PROGRAM, IN A SANDBOX (cutbox-rows.mjs): the forced cells as the released guide's own fill.sh prints them over the translation b4e9ce60b30b56eb… (all of the seat's roots in one cut). By AI agents, Wed Nov 11 2026. No macro, syntax, notation, axiom, sorry.
-/
import Derived.Test.YtjnmepijcndcpaaGreatChecked
import GoSem.Claim
import GoSem.ClaimJoined
import GoSem.ClaimMapViews
import Derived.JoinedTies
import Derived.KernelRfl
namespace Go.Proofs.YtjnmepijcndcpaaGreat
/- THE CELL 'sum', in the pinned program and in every row, IS THE sha256 OF THE DUMP (.gsa) THAT YtjnmepijcndcpaaGreatProg.lean LOADS. Nothing in Lean hashes anything: it is a label: what it is worth is what the hold of that sum in a sandbox is worth. -/
noncomputable def Tryz.pinned : Pinned := { name := "ytjnmepijcndcpaagreat", sum := "b4e9ce60b30b56eb4d879da2d62bce25e8d91481554e9002a9e2717847b95302", checked := Tryz.checked }
namespace Rows
def none {H : Type} : Left H := { results := [], args := [] }

/-- 'hoardinglaw46.SlotParts': WHATEVER THE INPUT: true; the input reads as it did. -/
def slotPartsSpec : ChangeSpec := { name := "slotParts", fn := fun _ => fun
  | [d1, d2, d3] => { results := [.lit (.bool true)], args := [d1, d2, d3] }
  | _ => none }
def slotPartsRow : OpenClaim := { program := "ytjnmepijcndcpaagreat", sum := "b4e9ce60b30b56eb4d879da2d62bce25e8d91481554e9002a9e2717847b95302", func := "hoarding/hoardinglaw46.SlotParts", spec := "slotParts", unfollowed := true, recurses := true, apart := false }
def SlotPartsSaid : Prop := slotPartsRow.holds Tryz.pinned (OpenSpec.ofChange slotPartsSpec)

/-- ITS FALSE NEIGHBOUR: 'it returns false'. Refute it at one input. -/
def slotPartsWrong : ChangeSpec := { name := "slotParts", fn := fun _ => fun
  | [d1, d2, d3] => { results := [.lit (.bool false)], args := [d1, d2, d3] }
  | _ => none }
def SlotPartsWrongFalsely : Prop := slotPartsRow.holds Tryz.pinned (OpenSpec.ofChange slotPartsWrong)

/-- 'hoardinglaw41.WindowTells': WHATEVER THE INPUT: true; the input reads as it did. -/
def windowTellsSpec : ChangeSpec := { name := "windowTells", fn := fun _ => fun
  | [d1, d2] => { results := [.lit (.bool true)], args := [d1, d2] }
  | _ => none }
def windowTellsRow : OpenClaim := { program := "ytjnmepijcndcpaagreat", sum := "b4e9ce60b30b56eb4d879da2d62bce25e8d91481554e9002a9e2717847b95302", func := "hoarding/hoardinglaw41.WindowTells", spec := "windowTells", inPlace := ["internal/bytealg.IndexByteString", "internal/bytealg.IndexString"], unfollowed := true, recurses := true, named := ["internal/bytealg.MaxLen"], apart := false }
def WindowTellsSaid : Prop := windowTellsRow.holds Tryz.pinned (OpenSpec.ofChange windowTellsSpec)

/-- ITS FALSE NEIGHBOUR: 'it returns false'. Refute it at one input. -/
def windowTellsWrong : ChangeSpec := { name := "windowTells", fn := fun _ => fun
  | [d1, d2] => { results := [.lit (.bool false)], args := [d1, d2] }
  | _ => none }
def WindowTellsWrongFalsely : Prop := windowTellsRow.holds Tryz.pinned (OpenSpec.ofChange windowTellsWrong)

/-- 'hoardinglaw41.WindowHas': WHATEVER THE INPUT: true; the input reads as it did. -/
def windowHasSpec : ChangeSpec := { name := "windowHas", fn := fun _ => fun
  | [d1, d2] => { results := [.lit (.bool true)], args := [d1, d2] }
  | _ => none }
def windowHasRow : OpenClaim := { program := "ytjnmepijcndcpaagreat", sum := "b4e9ce60b30b56eb4d879da2d62bce25e8d91481554e9002a9e2717847b95302", func := "hoarding/hoardinglaw41.WindowHas", spec := "windowHas", inPlace := ["internal/bytealg.IndexByteString", "internal/bytealg.IndexString"], unfollowed := true, recurses := true, named := ["internal/bytealg.MaxLen"], apart := false }
def WindowHasSaid : Prop := windowHasRow.holds Tryz.pinned (OpenSpec.ofChange windowHasSpec)

/-- ITS FALSE NEIGHBOUR: 'it returns false'. Refute it at one input. -/
def windowHasWrong : ChangeSpec := { name := "windowHas", fn := fun _ => fun
  | [d1, d2] => { results := [.lit (.bool false)], args := [d1, d2] }
  | _ => none }
def WindowHasWrongFalsely : Prop := windowHasRow.holds Tryz.pinned (OpenSpec.ofChange windowHasWrong)

/-- 'hoardinglaw40.OwnerTells': WHATEVER THE INPUT: true; the input reads as it did. -/
def ownerTellsSpec : ChangeSpec := { name := "ownerTells", fn := fun _ => fun
  | [d1, d2] => { results := [.lit (.bool true)], args := [d1, d2] }
  | _ => none }
def ownerTellsRow : OpenClaim := { program := "ytjnmepijcndcpaagreat", sum := "b4e9ce60b30b56eb4d879da2d62bce25e8d91481554e9002a9e2717847b95302", func := "hoarding/hoardinglaw40.OwnerTells", spec := "ownerTells", inPlace := ["internal/bytealg.IndexByteString", "internal/bytealg.IndexString"], unfollowed := true, recurses := true, named := ["internal/bytealg.MaxLen"], apart := false }
def OwnerTellsSaid : Prop := ownerTellsRow.holds Tryz.pinned (OpenSpec.ofChange ownerTellsSpec)

/-- ITS FALSE NEIGHBOUR: 'it returns false'. Refute it at one input. -/
def ownerTellsWrong : ChangeSpec := { name := "ownerTells", fn := fun _ => fun
  | [d1, d2] => { results := [.lit (.bool false)], args := [d1, d2] }
  | _ => none }
def OwnerTellsWrongFalsely : Prop := ownerTellsRow.holds Tryz.pinned (OpenSpec.ofChange ownerTellsWrong)

/-- 'hoardinglaw40.OwnerForms': WHATEVER THE INPUT: true; the input reads as it did. -/
def ownerFormsSpec : ChangeSpec := { name := "ownerForms", fn := fun _ => fun
  | [d] => { results := [.lit (.bool true)], args := [d] }
  | _ => none }
def ownerFormsRow : OpenClaim := { program := "ytjnmepijcndcpaagreat", sum := "b4e9ce60b30b56eb4d879da2d62bce25e8d91481554e9002a9e2717847b95302", func := "hoarding/hoardinglaw40.OwnerForms", spec := "ownerForms", inPlace := ["internal/bytealg.IndexByteString", "internal/bytealg.IndexString"], unfollowed := true, recurses := true, named := ["internal/bytealg.MaxLen"], apart := false }
def OwnerFormsSaid : Prop := ownerFormsRow.holds Tryz.pinned (OpenSpec.ofChange ownerFormsSpec)

/-- ITS FALSE NEIGHBOUR: 'it returns false'. Refute it at one input. -/
def ownerFormsWrong : ChangeSpec := { name := "ownerForms", fn := fun _ => fun
  | [d] => { results := [.lit (.bool false)], args := [d] }
  | _ => none }
def OwnerFormsWrongFalsely : Prop := ownerFormsRow.holds Tryz.pinned (OpenSpec.ofChange ownerFormsWrong)

/-- 'hoardinglaw37.RenameTells': WHATEVER THE INPUT: true; the input reads as it did. -/
def renameTellsSpec : ChangeSpec := { name := "renameTells", fn := fun _ => fun
  | [d1, d2, d3, d4, d5, d6] => { results := [.lit (.bool true)], args := [d1, d2, d3, d4, d5, d6] }
  | _ => none }
def renameTellsRow : OpenClaim := { program := "ytjnmepijcndcpaagreat", sum := "b4e9ce60b30b56eb4d879da2d62bce25e8d91481554e9002a9e2717847b95302", func := "hoarding/hoardinglaw37.RenameTells", spec := "renameTells", inPlace := ["internal/bytealg.IndexByteString", "internal/bytealg.IndexString", "internal/abi.NoEscape", "internal/bytealg.MakeNoZero"], unfollowed := true, recurses := true, named := ["internal/bytealg.MaxLen"], apart := false }
def RenameTellsSaid : Prop := renameTellsRow.holds Tryz.pinned (OpenSpec.ofChange renameTellsSpec)

/-- ITS FALSE NEIGHBOUR: 'it returns false'. Refute it at one input. -/
def renameTellsWrong : ChangeSpec := { name := "renameTells", fn := fun _ => fun
  | [d1, d2, d3, d4, d5, d6] => { results := [.lit (.bool false)], args := [d1, d2, d3, d4, d5, d6] }
  | _ => none }
def RenameTellsWrongFalsely : Prop := renameTellsRow.holds Tryz.pinned (OpenSpec.ofChange renameTellsWrong)

/-- 'hoardinglaw36.ReferTells': WHATEVER THE INPUT: true; the input reads as it did. -/
def referTellsSpec : ChangeSpec := { name := "referTells", fn := fun _ => fun
  | [d1, d2, d3, d4, d5, d6] => { results := [.lit (.bool true)], args := [d1, d2, d3, d4, d5, d6] }
  | _ => none }
def referTellsRow : OpenClaim := { program := "ytjnmepijcndcpaagreat", sum := "b4e9ce60b30b56eb4d879da2d62bce25e8d91481554e9002a9e2717847b95302", func := "hoarding/hoardinglaw36.ReferTells", spec := "referTells", inPlace := ["internal/bytealg.IndexByteString", "internal/bytealg.IndexString"], unfollowed := true, recurses := true, named := ["internal/bytealg.MaxLen"], apart := false }
def ReferTellsSaid : Prop := referTellsRow.holds Tryz.pinned (OpenSpec.ofChange referTellsSpec)

/-- ITS FALSE NEIGHBOUR: 'it returns false'. Refute it at one input. -/
def referTellsWrong : ChangeSpec := { name := "referTells", fn := fun _ => fun
  | [d1, d2, d3, d4, d5, d6] => { results := [.lit (.bool false)], args := [d1, d2, d3, d4, d5, d6] }
  | _ => none }
def ReferTellsWrongFalsely : Prop := referTellsRow.holds Tryz.pinned (OpenSpec.ofChange referTellsWrong)

/-- 'hoardinglaw36.ReferLeads': WHATEVER THE INPUT: true; the input reads as it did. -/
def referLeadsSpec : ChangeSpec := { name := "referLeads", fn := fun _ => fun
  | [d] => { results := [.lit (.bool true)], args := [d] }
  | _ => none }
def referLeadsRow : OpenClaim := { program := "ytjnmepijcndcpaagreat", sum := "b4e9ce60b30b56eb4d879da2d62bce25e8d91481554e9002a9e2717847b95302", func := "hoarding/hoardinglaw36.ReferLeads", spec := "referLeads", inPlace := ["internal/bytealg.IndexByteString", "internal/bytealg.IndexString"], unfollowed := true, recurses := true, named := ["internal/bytealg.MaxLen"], apart := false }
def ReferLeadsSaid : Prop := referLeadsRow.holds Tryz.pinned (OpenSpec.ofChange referLeadsSpec)

/-- ITS FALSE NEIGHBOUR: 'it returns false'. Refute it at one input. -/
def referLeadsWrong : ChangeSpec := { name := "referLeads", fn := fun _ => fun
  | [d] => { results := [.lit (.bool false)], args := [d] }
  | _ => none }
def ReferLeadsWrongFalsely : Prop := referLeadsRow.holds Tryz.pinned (OpenSpec.ofChange referLeadsWrong)

/- THE SECOND FORM. 'bulk': how many values and letters a reading holds, each counted each time it is reached (what is shared counts as often as it is met; a slice's spare places count too). A statement '..UptoSaid' is the law's where the arguments, and the package variables that the reading takes, are together of bulk at most 1048576: NARROWER than '..Said'. Prove '..Said' where nothing that the law and all that it calls make is longer than what came in: it says more and counts as full. Else prove '..UptoSaid'. A law counts once. -/
mutual
def uptoBulk {H : Type} : DataW H → Nat
  | .lit (.string bytes) => bytes.length + 1
  | .lit _ => 1
  | .nil => 1
  | .ptr d => uptoBulk d + 1
  | .slice elems spare => uptoBulkAll elems + uptoBulkAll spare + 1
  | .agg parts => uptoBulkAll parts + 1
  | .iface _ d => uptoBulk d + 1
  | .map entries => uptoBulkEntries entries + 1
  | .held _ => 1
def uptoBulkAll {H : Type} : List (DataW H) → Nat
  | [] => 0
  | d :: r => uptoBulk d + uptoBulkAll r
def uptoBulkEntries {H : Type} : List (Lit × DataW H) → Nat
  | [] => 0
  | x :: r => uptoBulkEntry x + uptoBulkEntries r
def uptoBulkEntry {H : Type} : Lit × DataW H → Nat
  | (.string bytes, d) => bytes.length + uptoBulk d + 1
  | (_, d) => uptoBulk d + 1
 end
def uptoSmall : (H : Type) → List (DataW H) → Bool := fun _ ds => decide (uptoBulkAll ds ≤ 1048576)
def OpenSpec.upto (s : _root_.Go.ChangeSpec) : _root_.Go.OpenSpec := { _root_.Go.OpenSpec.ofChange s with cond := some uptoSmall }

/-- 'hoardinglaw46.SlotParts', WHERE WHAT IT READS IS OF BULK AT MOST 1048576: true; the input reads as it did. -/
def slotPartsUptoRow : OpenClaim := { program := "ytjnmepijcndcpaagreat", sum := "b4e9ce60b30b56eb4d879da2d62bce25e8d91481554e9002a9e2717847b95302", func := "hoarding/hoardinglaw46.SlotParts", spec := "slotParts", unfollowed := true, recurses := true, apart := false, narrowed := true }
def SlotPartsUptoSaid : Prop := slotPartsUptoRow.holds Tryz.pinned (OpenSpec.upto slotPartsSpec)

/-- 'hoardinglaw41.WindowTells', WHERE WHAT IT READS IS OF BULK AT MOST 1048576: true; the input reads as it did. -/
def windowTellsUptoRow : OpenClaim := { program := "ytjnmepijcndcpaagreat", sum := "b4e9ce60b30b56eb4d879da2d62bce25e8d91481554e9002a9e2717847b95302", func := "hoarding/hoardinglaw41.WindowTells", spec := "windowTells", inPlace := ["internal/bytealg.IndexByteString", "internal/bytealg.IndexString"], unfollowed := true, recurses := true, named := ["internal/bytealg.MaxLen"], apart := false, narrowed := true }
def WindowTellsUptoSaid : Prop := windowTellsUptoRow.holds Tryz.pinned (OpenSpec.upto windowTellsSpec)

/-- 'hoardinglaw41.WindowHas', WHERE WHAT IT READS IS OF BULK AT MOST 1048576: true; the input reads as it did. -/
def windowHasUptoRow : OpenClaim := { program := "ytjnmepijcndcpaagreat", sum := "b4e9ce60b30b56eb4d879da2d62bce25e8d91481554e9002a9e2717847b95302", func := "hoarding/hoardinglaw41.WindowHas", spec := "windowHas", inPlace := ["internal/bytealg.IndexByteString", "internal/bytealg.IndexString"], unfollowed := true, recurses := true, named := ["internal/bytealg.MaxLen"], apart := false, narrowed := true }
def WindowHasUptoSaid : Prop := windowHasUptoRow.holds Tryz.pinned (OpenSpec.upto windowHasSpec)

/-- 'hoardinglaw40.OwnerTells', WHERE WHAT IT READS IS OF BULK AT MOST 1048576: true; the input reads as it did. -/
def ownerTellsUptoRow : OpenClaim := { program := "ytjnmepijcndcpaagreat", sum := "b4e9ce60b30b56eb4d879da2d62bce25e8d91481554e9002a9e2717847b95302", func := "hoarding/hoardinglaw40.OwnerTells", spec := "ownerTells", inPlace := ["internal/bytealg.IndexByteString", "internal/bytealg.IndexString"], unfollowed := true, recurses := true, named := ["internal/bytealg.MaxLen"], apart := false, narrowed := true }
def OwnerTellsUptoSaid : Prop := ownerTellsUptoRow.holds Tryz.pinned (OpenSpec.upto ownerTellsSpec)

/-- 'hoardinglaw40.OwnerForms', WHERE WHAT IT READS IS OF BULK AT MOST 1048576: true; the input reads as it did. -/
def ownerFormsUptoRow : OpenClaim := { program := "ytjnmepijcndcpaagreat", sum := "b4e9ce60b30b56eb4d879da2d62bce25e8d91481554e9002a9e2717847b95302", func := "hoarding/hoardinglaw40.OwnerForms", spec := "ownerForms", inPlace := ["internal/bytealg.IndexByteString", "internal/bytealg.IndexString"], unfollowed := true, recurses := true, named := ["internal/bytealg.MaxLen"], apart := false, narrowed := true }
def OwnerFormsUptoSaid : Prop := ownerFormsUptoRow.holds Tryz.pinned (OpenSpec.upto ownerFormsSpec)

/-- 'hoardinglaw37.RenameTells', WHERE WHAT IT READS IS OF BULK AT MOST 1048576: true; the input reads as it did. -/
def renameTellsUptoRow : OpenClaim := { program := "ytjnmepijcndcpaagreat", sum := "b4e9ce60b30b56eb4d879da2d62bce25e8d91481554e9002a9e2717847b95302", func := "hoarding/hoardinglaw37.RenameTells", spec := "renameTells", inPlace := ["internal/bytealg.IndexByteString", "internal/bytealg.IndexString", "internal/abi.NoEscape", "internal/bytealg.MakeNoZero"], unfollowed := true, recurses := true, named := ["internal/bytealg.MaxLen"], apart := false, narrowed := true }
def RenameTellsUptoSaid : Prop := renameTellsUptoRow.holds Tryz.pinned (OpenSpec.upto renameTellsSpec)

/-- 'hoardinglaw36.ReferTells', WHERE WHAT IT READS IS OF BULK AT MOST 1048576: true; the input reads as it did. -/
def referTellsUptoRow : OpenClaim := { program := "ytjnmepijcndcpaagreat", sum := "b4e9ce60b30b56eb4d879da2d62bce25e8d91481554e9002a9e2717847b95302", func := "hoarding/hoardinglaw36.ReferTells", spec := "referTells", inPlace := ["internal/bytealg.IndexByteString", "internal/bytealg.IndexString"], unfollowed := true, recurses := true, named := ["internal/bytealg.MaxLen"], apart := false, narrowed := true }
def ReferTellsUptoSaid : Prop := referTellsUptoRow.holds Tryz.pinned (OpenSpec.upto referTellsSpec)

/-- 'hoardinglaw36.ReferLeads', WHERE WHAT IT READS IS OF BULK AT MOST 1048576: true; the input reads as it did. -/
def referLeadsUptoRow : OpenClaim := { program := "ytjnmepijcndcpaagreat", sum := "b4e9ce60b30b56eb4d879da2d62bce25e8d91481554e9002a9e2717847b95302", func := "hoarding/hoardinglaw36.ReferLeads", spec := "referLeads", inPlace := ["internal/bytealg.IndexByteString", "internal/bytealg.IndexString"], unfollowed := true, recurses := true, named := ["internal/bytealg.MaxLen"], apart := false, narrowed := true }
def ReferLeadsUptoSaid : Prop := referLeadsUptoRow.holds Tryz.pinned (OpenSpec.upto referLeadsSpec)

end Rows
end Go.Proofs.YtjnmepijcndcpaaGreat
