/- A part of the proof: lemmas and walks that the last text of the claim joins; no condition. -/
import Derived.Test.YtjnmepijcndcpaaGreatDoorRenameKeepsVF
import Derived.Laws.Externs
import Derived.Shelf.Unicode.DecodeSlow
import Derived.Test.YtjnmepijcndcpaaGreatDoorProg
import Derived.Shelf.Spec.SlicesInsert
import Derived.Shelf.Spec.SlicesInsertGrow
import Derived.Shelf.Strings.Builder1
import Derived.Shelf.Strings.Builder2
import Derived.Shelf.Strings.OnBuilder
import Derived.Shelf.Strings.Trim
import Derived.Shelf.Small.Utf8
import Derived.Shelf.Small.Strs
import Derived.Shelf.Small.Wraps
import Derived.Shelf.Strings.BuilderF
import Derived.Shelf.Strings.BuilderK
import Derived.Shelf.Strings.Builder2Cap
import Derived.Shelf.Strings.Search1
import Derived.Shelf.Strings.Search2
import Derived.Shelf.Strings.Search3
import Derived.Shelf.LaysM
import Derived.Shelf.Strings.Shaped
import Derived.Shelf.Strings.Prefix
import Derived.Shelf.Unicode.Decode
import Derived.Shelf.Strings.Runes
import Derived.Shelf.Strings.AsciiSet
import Derived.Shelf.Unicode.DecodeAny
import Derived.Shelf.Unicode.DecodeLast
import Derived.Shelf.Strings.FieldsFuncAny
import Derived.Shelf.Strings.BuilderCap
import Derived.Shelf.Slices.Turned
import Derived.Ground.Names2Prog
import Derived.Shelf.Slices.Clone
import Derived.Ground.SlgnProg
import Derived.Shelf.SlicesE.Clone
import Derived.Test.YtjnmepijcndcpaaGreatDoorRenameKeepsTA
import Derived.Shelf.Slices.Delete
import Derived.Shelf.Slices.Cells
import Derived.Shelf.Slices.Empties
set_option linter.unusedVariables false
set_option linter.unusedSimpArgs false
set_option maxHeartbeats 8000000
namespace Go.Vc
open Go.Proofs
theorem mixed : Tryz.prog.follows .mixedOrders = true := by kernel_rfl
abbrev qAI : Ty := .int .i64
abbrev qs6 : Ty := .pr qAI qAI
abbrev qAJ : Ty := .pr .str .str
abbrev qs7 : Ty := .pr qAI (.pr .str (.pr (.sl qAJ) (.pr .bool .str)))
abbrev qAB : Ty := .pr qAI (.pr qAI (.pr .str (.pr (.sl qAJ) (.pr .str (.pr qAI (.sl qAI))))))
abbrev qG5 : Ty := .pr qAI (.pr .str (.pr qAI (.pr .str qAI)))
def tyB (t : TypeId) : Option Ty :=
 bif Nat.beq t 3 then some qAI else bif Nat.beq t 4 then some .bool else bif Nat.beq t 5 then some .byte else bif Nat.beq t 9 then some .str else bif Nat.beq t 43 then some qAJ else bif Nat.beq t 41 then some qAB else bif Nat.beq t 164 then some qs6 else bif Nat.beq t 96 then some qs7 else bif Nat.beq t 48 then some (.sl .str) else bif Nat.beq t 33 then some qG5 else bif Nat.beq t 120 then some .str else none
def qwH (t : TypeId) : Bool := Nat.beq t 43 || Nat.beq t 33
theorem qgA : ∀ t, qwH t = true → Tryz.prog.stoodInHeld t = false ∧ Tryz.prog.eqGuardType Tryz.prog.depth t = false ∧ ((Tryz.prog.fieldsOf t).toList.all fun f => f.name != "_") = true := by
 intro t h
 rcases Bool.or_eq_true_iff.1 h with h | h
 all_goals (obtain rfl := qAH h;exact ⟨by kernel_rfl,by kernel_rfl,by kernel_rfl⟩)
def neB (f : FuncId) : Bool := Nat.beq f 219
theorem qk8 : ∀ f,neB f = true → ∀ (x : Value) (w : World),(callFunc f #[x]).run Tryz.prog w = .ok (.value x) w := by
 intro f h x w
 obtain rfl := qAH h
 rw [run_callFunc_extern Tryz.func219 (by kernel_rfl) (by kernel_rfl) (by kernel_rfl) (e := Extern.AbiNoEscape.same) (by kernel_rfl)]
 rfl
def tbB (t : TypeId) : Bool := Nat.beq t 130
def qK5 (r : Mem) (b o : Nat) : Option Value := match r b with | some (.cells c _ _) => c[o]? | _ => none
theorem qKG {r r' : Mem} (h : r.le r') {b o v} (hc : qK5 r b o = some v) : qK5 r' b o = some v := by
 unfold qK5 at hc ⊢
 cases hr : r b with
 | none => rw [hr] at hc;cases hc
 | some x => rw [hr] at hc;rw [h b x hr];exact hc
theorem qKC {r : Mem} {w : World} (hv : ∀ b o,r b = some o → w.heap[b]? = some o) {b o v} (hc : qK5 r b o = some v) : w.cell? ⟨b,o,none⟩ = some v := by
 unfold qK5 at hc
 cases hr : r b with
 | none => rw [hr] at hc;cases hc
 | some x =>
  rw [hr] at hc
  have := hv b x hr
  cases x <;> simp only at hc <;> first | (cases hc;done) | skip
  simp only [World.cell?,this]
  exact hc
structure GB (r : Mem) : Prop where
 first : ∀ c,c < 256 → qK5 r 0 c = some (.int .u8 (Lib.firstT c))
 acc : ∀ i,i < 16 → qK5 r 1 (2 * i) = some (.int .u8 (Lib.accLo i)) ∧ qK5 r 1 (2 * i + 1) = some (.int .u8 (Lib.accHi i))
 len : ∃ m : Int,qK5 r 2 0 = some (.int .i64 m)
theorem GB.le {r r' : Mem} (h : r.le r') (g : GB r) : GB r' :=
 ⟨fun c hc => qKG h (g.first c hc),fun i hi => ⟨qKG h (g.acc i hi).1,qKG h (g.acc i hi).2⟩,g.len.elim fun m hm => ⟨m,qKG h hm⟩⟩
theorem GB.tabs {r : Mem} {w : World} (g : GB r) (hv : ∀ b o,r b = some o → w.heap[b]? = some o) : Lib.Utf8Tabs 0 1 w :=
 ⟨fun c hc => qKC hv (g.first c hc),fun i hi => ⟨qKC hv (g.acc i hi).1,qKC hv (g.acc i hi).2⟩⟩
noncomputable abbrev BB : Base := { P := Tryz.prog,mixed := mixed,G := GB,mono := fun r r' h g => g.le h,ty0 := tyB,eqs := qwH,eqs_ok := qgA,ne := neB,ne_ok := qk8,tb := tbB }
set_option maxRecDepth 10000
@[simp] theorem qwF : qAA Tryz.prog 1 = 8 := rfl
@[simp] theorem qtS : qAA BB.P 1 = 8 := rfl
@[simp] theorem qwP : qAA Tryz.prog 2 = 8 := rfl
@[simp] theorem qv9 : qAA BB.P 2 = 8 := rfl
@[simp] theorem bytes3 : qAA Tryz.prog 3 = 8 := rfl
@[simp] theorem qXX : qAA BB.P 3 = 8 := rfl
@[simp] theorem bytes4 : qAA Tryz.prog 4 = 1 := rfl
@[simp] theorem qvT : qAA BB.P 4 = 1 := rfl
@[simp] theorem bytes5 : qAA Tryz.prog 5 = 1 := rfl
@[simp] theorem qs5 : qAA BB.P 5 = 1 := rfl
@[simp] theorem qwN : qAA Tryz.prog 6 = 1 := rfl
@[simp] theorem quH : qAA BB.P 6 = 1 := rfl
@[simp] theorem qwK : qAA Tryz.prog 7 = 24 := rfl
@[simp] theorem qvC : qAA BB.P 7 = 24 := rfl
@[simp] theorem qwI : qAA Tryz.prog 8 = 24 := rfl
@[simp] theorem qt0 : qAA BB.P 8 = 24 := rfl
@[simp] theorem bytes9 : qAA Tryz.prog 9 = 16 := rfl
@[simp] theorem qtX : qAA BB.P 9 = 16 := rfl
@[simp] theorem qt3 : qAA Tryz.prog 10 = 16 := rfl
@[simp] theorem qsE : qAA BB.P 10 = 16 := rfl
@[simp] theorem qt8 : qAA Tryz.prog 11 = 16 := rfl
@[simp] theorem qqF : qAA BB.P 11 = 16 := rfl
@[simp] theorem qtI : qAA Tryz.prog 12 = 8 := rfl
@[simp] theorem qp1 : qAA BB.P 12 = 8 := rfl
@[simp] theorem qtT : qAA Tryz.prog 13 = 24 := rfl
@[simp] theorem qrJ : qAA BB.P 13 = 24 := rfl
@[simp] theorem qvV : qAA Tryz.prog 14 = 24 := rfl
@[simp] theorem qsI : qAA BB.P 14 = 24 := rfl
@[simp] theorem qu5 : qAA Tryz.prog 15 = 8 := rfl
@[simp] theorem qqG : qAA BB.P 15 = 8 := rfl
@[simp] theorem qvG : qAA Tryz.prog 16 = 8 := rfl
@[simp] theorem qqO : qAA BB.P 16 = 8 := rfl
@[simp] theorem qu9 : qAA Tryz.prog 17 = 8 := rfl
@[simp] theorem qp0 : qAA BB.P 17 = 8 := rfl
@[simp] theorem qvM : qAA Tryz.prog 18 = 8 := rfl
@[simp] theorem qnY : qAA BB.P 18 = 8 := rfl
@[simp] theorem quS : qAA Tryz.prog 19 = 8 := rfl
@[simp] theorem qq8 : qAA BB.P 19 = 8 := rfl
@[simp] theorem qv4 : qAA Tryz.prog 20 = 16 := rfl
@[simp] theorem qsM : qAA BB.P 20 = 16 := rfl
@[simp] theorem bytes21 : qAA Tryz.prog 21 = 4 := rfl
@[simp] theorem qoX : qAA BB.P 21 = 4 := rfl
@[simp] theorem qtA : qAA Tryz.prog 22 = 24 := rfl
@[simp] theorem qs1 : qAA BB.P 22 = 24 := rfl
@[simp] theorem bytes23 : qAA Tryz.prog 23 = 24 := rfl
@[simp] theorem qrD : qAA BB.P 23 = 24 := rfl
@[simp] theorem qt6 : qAA Tryz.prog 24 = 24 := rfl
@[simp] theorem qp2 : qAA BB.P 24 = 24 := rfl
@[simp] theorem bytes25 : qAA Tryz.prog 25 = 8 := rfl
@[simp] theorem qo2 : qAA BB.P 25 = 8 := rfl
@[simp] theorem bytes26 : qAA Tryz.prog 26 = 8 := rfl
@[simp] theorem qo8 : qAA BB.P 26 = 8 := rfl
@[simp] theorem bytes27 : qAA Tryz.prog 27 = 8 := rfl
@[simp] theorem qrB : qAA BB.P 27 = 8 := rfl
@[simp] theorem bytes28 : qAA Tryz.prog 28 = 8 := rfl
@[simp] theorem qsH : qAA BB.P 28 = 8 := rfl
@[simp] theorem qs9 : qAA Tryz.prog 29 = 24 := rfl
@[simp] theorem qoL : qAA BB.P 29 = 24 := rfl
@[simp] theorem bytes30 : qAA Tryz.prog 30 = 8 := rfl
@[simp] theorem qrM : qAA BB.P 30 = 8 := rfl
@[simp] theorem qtF : qAA Tryz.prog 31 = 8 := rfl
@[simp] theorem qpL : qAA BB.P 31 = 8 := rfl
@[simp] theorem quR : qAA Tryz.prog 32 = 56 := rfl
@[simp] theorem qn1 : qAA BB.P 32 = 56 := rfl
@[simp] theorem qgJ : qAA Tryz.prog 33 = 56 := rfl
@[simp] theorem qb5 : qAA BB.P 33 = 56 := rfl
@[simp] theorem qvD : qAA Tryz.prog 34 = 8 := rfl
@[simp] theorem qpI : qAA BB.P 34 = 8 := rfl
@[simp] theorem qtO : qAA Tryz.prog 35 = 8 := rfl
@[simp] theorem qnZ : qAA BB.P 35 = 8 := rfl
@[simp] theorem qu3 : qAA Tryz.prog 36 = 8 := rfl
@[simp] theorem qr9 : qAA BB.P 36 = 8 := rfl
@[simp] theorem qwA : qAA Tryz.prog 37 = 8 := rfl
@[simp] theorem qr6 : qAA BB.P 37 = 8 := rfl
@[simp] theorem qs4 : qAA Tryz.prog 38 = 24 := rfl
@[simp] theorem qpJ : qAA BB.P 38 = 24 := rfl
@[simp] theorem qvB : qAA Tryz.prog 39 = 24 := rfl
@[simp] theorem qpS : qAA BB.P 39 = 24 := rfl
@[simp] theorem qvJ : qAA Tryz.prog 40 = 104 := rfl
@[simp] theorem qr5 : qAA BB.P 40 = 104 := rfl
@[simp] theorem qZR : qAA Tryz.prog 41 = 104 := rfl
@[simp] theorem qVD : qAA BB.P 41 = 104 := rfl
@[simp] theorem qwB : qAA Tryz.prog 42 = 32 := rfl
@[simp] theorem qrC : qAA BB.P 42 = 32 := rfl
@[simp] theorem qYS : qAA Tryz.prog 43 = 32 := rfl
@[simp] theorem qUF : qAA BB.P 43 = 32 := rfl
@[simp] theorem qtN : qAA Tryz.prog 44 = 8 := rfl
@[simp] theorem qoE : qAA BB.P 44 = 8 := rfl
@[simp] theorem quD : qAA Tryz.prog 45 = 8 := rfl
@[simp] theorem qnF : qAA BB.P 45 = 8 := rfl
@[simp] theorem quL : qAA Tryz.prog 46 = 8 := rfl
@[simp] theorem qoO : qAA BB.P 46 = 8 := rfl
@[simp] theorem qvK : qAA Tryz.prog 47 = 8 := rfl
@[simp] theorem qqL : qAA BB.P 47 = 8 := rfl
@[simp] theorem qtM : qAA Tryz.prog 48 = 24 := rfl
@[simp] theorem qnR : qAA BB.P 48 = 24 := rfl
@[simp] theorem qs8 : qAA Tryz.prog 49 = 8 := rfl
@[simp] theorem qp4 : qAA BB.P 49 = 8 := rfl
@[simp] theorem quK : qAA Tryz.prog 50 = 8 := rfl
@[simp] theorem qpQ : qAA BB.P 50 = 8 := rfl
@[simp] theorem qtV : qAA Tryz.prog 51 = 8 := rfl
@[simp] theorem qqS : qAA BB.P 51 = 8 := rfl
@[simp] theorem quV : qAA Tryz.prog 52 = 8 := rfl
@[simp] theorem qsG : qAA BB.P 52 = 8 := rfl
@[simp] theorem qtQ : qAA Tryz.prog 53 = 8 := rfl
@[simp] theorem qqC : qAA BB.P 53 = 8 := rfl
@[simp] theorem qvP : qAA Tryz.prog 54 = 8 := rfl
@[simp] theorem qo4 : qAA BB.P 54 = 8 := rfl
@[simp] theorem qu2 : qAA Tryz.prog 55 = 8 := rfl
@[simp] theorem qo7 : qAA BB.P 55 = 8 := rfl
@[simp] theorem qvN : qAA Tryz.prog 56 = 8 := rfl
@[simp] theorem qnU : qAA BB.P 56 = 8 := rfl
@[simp] theorem qu1 : qAA Tryz.prog 57 = 8 := rfl
@[simp] theorem qo1 : qAA BB.P 57 = 8 := rfl
@[simp] theorem qv8 : qAA Tryz.prog 58 = 8 := rfl
@[simp] theorem qn0 : qAA BB.P 58 = 8 := rfl
@[simp] theorem quT : qAA Tryz.prog 59 = 8 := rfl
@[simp] theorem qqX : qAA BB.P 59 = 8 := rfl
@[simp] theorem qt9 : qAA Tryz.prog 60 = 256 := rfl
@[simp] theorem qpO : qAA BB.P 60 = 256 := rfl
@[simp] theorem qt7 : qAA Tryz.prog 61 = 256 := rfl
@[simp] theorem qn5 : qAA BB.P 61 = 256 := rfl
@[simp] theorem qt5 : qAA Tryz.prog 63 = 8 := rfl
@[simp] theorem qsV : qAA BB.P 63 = 8 := rfl
@[simp] theorem quE : qAA Tryz.prog 64 = 8 := rfl
@[simp] theorem qs0 : qAA BB.P 64 = 8 := rfl
@[simp] theorem qtY : qAA Tryz.prog 65 = 8 := rfl
@[simp] theorem qoQ : qAA BB.P 65 = 8 := rfl
@[simp] theorem quZ : qAA Tryz.prog 66 = 8 := rfl
@[simp] theorem qrX : qAA BB.P 66 = 8 := rfl
@[simp] theorem quY : qAA Tryz.prog 67 = 8 := rfl
@[simp] theorem qpD : qAA BB.P 67 = 8 := rfl
@[simp] theorem qvF : qAA Tryz.prog 68 = 8 := rfl
@[simp] theorem qoI : qAA BB.P 68 = 8 := rfl
@[simp] theorem qv2 : qAA Tryz.prog 69 = 8 := rfl
@[simp] theorem qnG : qAA BB.P 69 = 8 := rfl
@[simp] theorem qtC : qAA Tryz.prog 70 = 136 := rfl
@[simp] theorem qsJ : qAA BB.P 70 = 136 := rfl
@[simp] theorem qu7 : qAA Tryz.prog 71 = 136 := rfl
@[simp] theorem qrN : qAA BB.P 71 = 136 := rfl
@[simp] theorem quW : qAA Tryz.prog 72 = 8 := rfl
@[simp] theorem qn6 : qAA BB.P 72 = 8 := rfl
@[simp] theorem qvE : qAA Tryz.prog 74 = 8 := rfl
@[simp] theorem qrU : qAA BB.P 74 = 8 := rfl
@[simp] theorem qv7 : qAA Tryz.prog 75 = 8 := rfl
@[simp] theorem qq7 : qAA BB.P 75 = 8 := rfl
@[simp] theorem quU : qAA Tryz.prog 77 = 8 := rfl
@[simp] theorem qoA : qAA BB.P 77 = 8 := rfl
@[simp] theorem qv5 : qAA Tryz.prog 78 = 8 := rfl
@[simp] theorem qqK : qAA BB.P 78 = 8 := rfl
@[simp] theorem qwC : qAA Tryz.prog 79 = 8 := rfl
@[simp] theorem qrI : qAA BB.P 79 = 8 := rfl
@[simp] theorem qt4 : qAA Tryz.prog 80 = 8 := rfl
@[simp] theorem qoC : qAA BB.P 80 = 8 := rfl
@[simp] theorem qtG : qAA Tryz.prog 81 = 8 := rfl
@[simp] theorem qpB : qAA BB.P 81 = 8 := rfl
@[simp] theorem quF : qAA Tryz.prog 82 = 8 := rfl
@[simp] theorem qn9 : qAA BB.P 82 = 8 := rfl
@[simp] theorem qv0 : qAA Tryz.prog 83 = 8 := rfl
@[simp] theorem qnD : qAA BB.P 83 = 8 := rfl
@[simp] theorem qv3 : qAA Tryz.prog 85 = 8 := rfl
@[simp] theorem qsP : qAA BB.P 85 = 8 := rfl
@[simp] theorem qvQ : qAA Tryz.prog 86 = 8 := rfl
@[simp] theorem qnC : qAA BB.P 86 = 8 := rfl
@[simp] theorem qvO : qAA Tryz.prog 87 = 8 := rfl
@[simp] theorem qn4 : qAA BB.P 87 = 8 := rfl
@[simp] theorem qtD : qAA Tryz.prog 88 = 8 := rfl
@[simp] theorem qpK : qAA BB.P 88 = 8 := rfl
@[simp] theorem qu6 : qAA Tryz.prog 89 = 8 := rfl
@[simp] theorem qnH : qAA BB.P 89 = 8 := rfl
@[simp] theorem qvU : qAA Tryz.prog 90 = 8 := rfl
@[simp] theorem qsZ : qAA BB.P 90 = 8 := rfl
@[simp] theorem qv6 : qAA Tryz.prog 91 = 8 := rfl
@[simp] theorem qnK : qAA BB.P 91 = 8 := rfl
@[simp] theorem qvX : qAA Tryz.prog 92 = 8 := rfl
@[simp] theorem qpM : qAA BB.P 92 = 8 := rfl
@[simp] theorem qvZ : qAA Tryz.prog 93 = 16 := rfl
@[simp] theorem qpV : qAA BB.P 93 = 16 := rfl
@[simp] theorem qwD : qAA Tryz.prog 94 = 16 := rfl
@[simp] theorem qrO : qAA BB.P 94 = 16 := rfl
@[simp] theorem qvH : qAA Tryz.prog 95 = 72 := rfl
@[simp] theorem qq6 : qAA BB.P 95 = 72 := rfl
@[simp] theorem quP : qAA Tryz.prog 96 = 72 := rfl
@[simp] theorem qsQ : qAA BB.P 96 = 72 := rfl
@[simp] theorem qvL : qAA Tryz.prog 97 = 8 := rfl
@[simp] theorem qqY : qAA BB.P 97 = 8 := rfl
@[simp] theorem quC : qAA Tryz.prog 98 = 8 := rfl
@[simp] theorem qsW : qAA BB.P 98 = 8 := rfl
@[simp] theorem qvA : qAA Tryz.prog 99 = 8 := rfl
@[simp] theorem qoV : qAA BB.P 99 = 8 := rfl
@[simp] theorem qqP : qAA Tryz.prog 101 = 8 := rfl
@[simp] theorem qkT : qAA BB.P 101 = 8 := rfl
@[simp] theorem qqA : qAA Tryz.prog 102 = 8 := rfl
@[simp] theorem qkV : qAA BB.P 102 = 8 := rfl
@[simp] theorem qqR : qAA Tryz.prog 103 = 8 := rfl
@[simp] theorem qi5 : qAA BB.P 103 = 8 := rfl
@[simp] theorem qo3 : qAA Tryz.prog 104 = 24 := rfl
@[simp] theorem qmZ : qAA BB.P 104 = 24 := rfl
@[simp] theorem qqB : qAA Tryz.prog 105 = 8 := rfl
@[simp] theorem qmY : qAA BB.P 105 = 8 := rfl
@[simp] theorem qoT : qAA Tryz.prog 107 = 8 := rfl
@[simp] theorem qlT : qAA BB.P 107 = 8 := rfl
@[simp] theorem qm8 : qAA Tryz.prog 108 = 8 := rfl
@[simp] theorem qmM : qAA BB.P 108 = 8 := rfl
@[simp] theorem qp3 : qAA Tryz.prog 109 = 8 := rfl
@[simp] theorem qh4 : qAA BB.P 109 = 8 := rfl
@[simp] theorem qoN : qAA Tryz.prog 110 = 8 := rfl
@[simp] theorem qj2 : qAA BB.P 110 = 8 := rfl
@[simp] theorem qpA : qAA Tryz.prog 111 = 8 := rfl
@[simp] theorem qlW : qAA BB.P 111 = 8 := rfl
@[simp] theorem qm9 : qAA Tryz.prog 112 = 8 := rfl
@[simp] theorem qmA : qAA BB.P 112 = 8 := rfl
@[simp] theorem qsF : qAA Tryz.prog 113 = 8 := rfl
@[simp] theorem qiV : qAA BB.P 113 = 8 := rfl
@[simp] theorem qrQ : qAA Tryz.prog 114 = 8 := rfl
@[simp] theorem qlR : qAA BB.P 114 = 8 := rfl
@[simp] theorem qpG : qAA Tryz.prog 115 = 8 := rfl
@[simp] theorem qiE : qAA BB.P 115 = 8 := rfl
@[simp] theorem qp9 : qAA Tryz.prog 116 = 8 := rfl
@[simp] theorem qiL : qAA BB.P 116 = 8 := rfl
@[simp] theorem qqW : qAA Tryz.prog 117 = 8 := rfl
@[simp] theorem qi2 : qAA BB.P 117 = 8 := rfl
@[simp] theorem qnV : qAA Tryz.prog 118 = 8 := rfl
@[simp] theorem qiW : qAA BB.P 118 = 8 := rfl
@[simp] theorem qn8 : qAA Tryz.prog 119 = 16 := rfl
@[simp] theorem qm4 : qAA BB.P 119 = 16 := rfl
@[simp] theorem qoB : qAA Tryz.prog 120 = 16 := rfl
@[simp] theorem qmJ : qAA BB.P 120 = 16 := rfl
@[simp] theorem qrK : qAA Tryz.prog 122 = 8 := rfl
@[simp] theorem qmK : qAA BB.P 122 = 8 := rfl
@[simp] theorem qqT : qAA Tryz.prog 123 = 8 := rfl
@[simp] theorem qiG : qAA BB.P 123 = 8 := rfl
@[simp] theorem qr8 : qAA Tryz.prog 124 = 8 := rfl
@[simp] theorem qm6 : qAA BB.P 124 = 8 := rfl
@[simp] theorem qsC : qAA Tryz.prog 125 = 8 := rfl
@[simp] theorem qiI : qAA BB.P 125 = 8 := rfl
@[simp] theorem qs2 : qAA Tryz.prog 126 = 8 := rfl
@[simp] theorem qjC : qAA BB.P 126 = 8 := rfl
@[simp] theorem qqJ : qAA Tryz.prog 127 = 8 := rfl
@[simp] theorem qi3 : qAA BB.P 127 = 8 := rfl
@[simp] theorem qsT : qAA Tryz.prog 128 = 24 := rfl
@[simp] theorem ql0 : qAA BB.P 128 = 24 := rfl
@[simp] theorem qnW : qAA Tryz.prog 129 = 32 := rfl
@[simp] theorem qk0 : qAA BB.P 129 = 32 := rfl
@[simp] theorem qq0 : qAA Tryz.prog 130 = 32 := rfl
@[simp] theorem qjK : qAA BB.P 130 = 32 := rfl
@[simp] theorem qnS : qAA Tryz.prog 131 = 8 := rfl
@[simp] theorem qjF : qAA BB.P 131 = 8 := rfl
@[simp] theorem qsL : qAA Tryz.prog 132 = 16 := rfl
@[simp] theorem qi1 : qAA BB.P 132 = 16 := rfl
@[simp] theorem qqN : qAA Tryz.prog 133 = 16 := rfl
@[simp] theorem qjD : qAA BB.P 133 = 16 := rfl
@[simp] theorem qpH : qAA Tryz.prog 135 = 8 := rfl
@[simp] theorem qmU : qAA BB.P 135 = 8 := rfl
@[simp] theorem qpN : qAA Tryz.prog 136 = 8 := rfl
@[simp] theorem qlV : qAA BB.P 136 = 8 := rfl
@[simp] theorem qsK : qAA Tryz.prog 137 = 8 := rfl
@[simp] theorem qmS : qAA BB.P 137 = 8 := rfl
@[simp] theorem qnM : qAA Tryz.prog 138 = 256 := rfl
@[simp] theorem qlI : qAA BB.P 138 = 256 := rfl
@[simp] theorem qp5 : qAA Tryz.prog 139 = 8 := rfl
@[simp] theorem qm1 : qAA BB.P 139 = 8 := rfl
@[simp] theorem qsU : qAA Tryz.prog 140 = 2 := rfl
@[simp] theorem qkW : qAA BB.P 140 = 2 := rfl
@[simp] theorem qs3 : qAA Tryz.prog 141 = 2 := rfl
@[simp] theorem qiO : qAA BB.P 141 = 2 := rfl
@[simp] theorem qp6 : qAA Tryz.prog 142 = 32 := rfl
@[simp] theorem ql4 : qAA BB.P 142 = 32 := rfl
@[simp] theorem qoS : qAA Tryz.prog 143 = 8 := rfl
@[simp] theorem qjG : qAA BB.P 143 = 8 := rfl
@[simp] theorem qnL : qAA Tryz.prog 144 = 8 := rfl
@[simp] theorem qiU : qAA BB.P 144 = 8 := rfl
@[simp] theorem qo0 : qAA Tryz.prog 145 = 8 := rfl
@[simp] theorem qjT : qAA BB.P 145 = 8 := rfl
@[simp] theorem qsN : qAA Tryz.prog 146 = 8 := rfl
@[simp] theorem qk5 : qAA BB.P 146 = 8 := rfl
@[simp] theorem qqD : qAA Tryz.prog 147 = 8 := rfl
@[simp] theorem qjL : qAA BB.P 147 = 8 := rfl
@[simp] theorem qrS : qAA Tryz.prog 148 = 8 := rfl
@[simp] theorem qmE : qAA BB.P 148 = 8 := rfl
@[simp] theorem qq9 : qAA Tryz.prog 150 = 8 := rfl
@[simp] theorem ql2 : qAA BB.P 150 = 8 := rfl
@[simp] theorem qr1 : qAA Tryz.prog 151 = 8 := rfl
@[simp] theorem ql5 : qAA BB.P 151 = 8 := rfl
@[simp] theorem qqI : qAA Tryz.prog 152 = 8 := rfl
@[simp] theorem qjY : qAA BB.P 152 = 8 := rfl
@[simp] theorem qrV : qAA Tryz.prog 153 = 8 := rfl
@[simp] theorem qiN : qAA BB.P 153 = 8 := rfl
@[simp] theorem qnQ : qAA Tryz.prog 154 = 8 := rfl
@[simp] theorem qmN : qAA BB.P 154 = 8 := rfl
@[simp] theorem qq1 : qAA Tryz.prog 155 = 8 := rfl
@[simp] theorem qj4 : qAA BB.P 155 = 8 := rfl
@[simp] theorem qo9 : qAA Tryz.prog 156 = 8 := rfl
@[simp] theorem qjE : qAA BB.P 156 = 8 := rfl
@[simp] theorem qpF : qAA Tryz.prog 157 = 8 := rfl
@[simp] theorem qlS : qAA BB.P 157 = 8 := rfl
@[simp] theorem qrE : qAA Tryz.prog 158 = 8 := rfl
@[simp] theorem qj9 : qAA BB.P 158 = 8 := rfl
@[simp] theorem qoD : qAA Tryz.prog 159 = 8 := rfl
@[simp] theorem qkH : qAA BB.P 159 = 8 := rfl
@[simp] theorem qoF : qAA Tryz.prog 160 = 8 := rfl
@[simp] theorem qj5 : qAA BB.P 160 = 8 := rfl
@[simp] theorem qrZ : qAA Tryz.prog 161 = 8 := rfl
@[simp] theorem qkE : qAA BB.P 161 = 8 := rfl
@[simp] theorem qp7 : qAA Tryz.prog 162 = 24 := rfl
@[simp] theorem qk7 : qAA BB.P 162 = 24 := rfl
@[simp] theorem qnB : qAA Tryz.prog 163 = 16 := rfl
@[simp] theorem qkU : qAA BB.P 163 = 16 := rfl
@[simp] theorem qn7 : qAA Tryz.prog 164 = 16 := rfl
@[simp] theorem ql6 : qAA BB.P 164 = 16 := rfl
@[simp] theorem qnA : qAA Tryz.prog 165 = 8 := rfl
@[simp] theorem qmL : qAA BB.P 165 = 8 := rfl
@[simp] theorem qr0 : qAA Tryz.prog 166 = 8 := rfl
@[simp] theorem qmW : qAA BB.P 166 = 8 := rfl
@[simp] theorem qsA : qAA Tryz.prog 167 = 8 := rfl
@[simp] theorem qmI : qAA BB.P 167 = 8 := rfl
@[simp] theorem qnX : qAA Tryz.prog 168 = 8 := rfl
@[simp] theorem qkI : qAA BB.P 168 = 8 := rfl
@[simp] theorem qpE : qAA Tryz.prog 169 = 8 := rfl
@[simp] theorem qiD : qAA BB.P 169 = 8 := rfl
@[simp] theorem qrA : qAA Tryz.prog 171 = 8 := rfl
@[simp] theorem qjU : qAA BB.P 171 = 8 := rfl
@[simp] theorem qsR : qAA Tryz.prog 173 = 8 := rfl
@[simp] theorem qmG : qAA BB.P 173 = 8 := rfl
@[simp] theorem qsX : qAA Tryz.prog 174 = 8 := rfl
@[simp] theorem qmH : qAA BB.P 174 = 8 := rfl
@[simp] theorem qpR : qAA Tryz.prog 175 = 8 := rfl
@[simp] theorem qlZ : qAA BB.P 175 = 8 := rfl
@[simp] theorem qqZ : qAA Tryz.prog 176 = 8 := rfl
@[simp] theorem qk2 : qAA BB.P 176 = 8 := rfl
@[simp] theorem qoW : qAA Tryz.prog 177 = 8 := rfl
@[simp] theorem qh6 : qAA BB.P 177 = 8 := rfl
@[simp] theorem qpU : qAA Tryz.prog 178 = 8 := rfl
@[simp] theorem qiX : qAA BB.P 178 = 8 := rfl
@[simp] theorem qpX : qAA Tryz.prog 179 = 8 := rfl
@[simp] theorem qjN : qAA BB.P 179 = 8 := rfl
@[simp] theorem qr4 : qAA Tryz.prog 180 = 8 := rfl
@[simp] theorem qi9 : qAA BB.P 180 = 8 := rfl
@[simp] theorem qq4 : qAA Tryz.prog 181 = 8 := rfl
@[simp] theorem qk4 : qAA BB.P 181 = 8 := rfl
@[simp] theorem qnP : qAA Tryz.prog 182 = 8 := rfl
@[simp] theorem qkS : qAA BB.P 182 = 8 := rfl
@[simp] theorem qsB : qAA Tryz.prog 183 = 8 := rfl
@[simp] theorem qiM : qAA BB.P 183 = 8 := rfl
@[simp] theorem qpZ : qAA Tryz.prog 184 = 8 := rfl
@[simp] theorem qlK : qAA BB.P 184 = 8 := rfl
@[simp] theorem qn2 : qAA Tryz.prog 185 = 8 := rfl
@[simp] theorem ql9 : qAA BB.P 185 = 8 := rfl
@[simp] theorem qrY : qAA Tryz.prog 186 = 8 := rfl
@[simp] theorem qlC : qAA BB.P 186 = 8 := rfl
@[simp] theorem qoY : qAA Tryz.prog 188 = 8 := rfl
@[simp] theorem qlE : qAA BB.P 188 = 8 := rfl
@[simp] theorem qrP : qAA Tryz.prog 189 = 8 := rfl
@[simp] theorem qkG : qAA BB.P 189 = 8 := rfl
@[simp] theorem qpW : qAA Tryz.prog 190 = 8 := rfl
@[simp] theorem qmO : qAA BB.P 190 = 8 := rfl
@[simp] theorem qqQ : qAA Tryz.prog 191 = 8 := rfl
@[simp] theorem qmF : qAA BB.P 191 = 8 := rfl
@[simp] theorem qoJ : qAA Tryz.prog 192 = 8 := rfl
@[simp] theorem qkR : qAA BB.P 192 = 8 := rfl
@[simp] theorem qoK : qAA Tryz.prog 193 = 8 := rfl
@[simp] theorem qm5 : qAA BB.P 193 = 8 := rfl
@[simp] theorem qnN : qAA Tryz.prog 194 = 8 := rfl
@[simp] theorem qkM : qAA BB.P 194 = 8 := rfl
@[simp] theorem qq3 : qAA Tryz.prog 196 = 8 := rfl
@[simp] theorem qh5 : qAA BB.P 196 = 8 := rfl
@[simp] theorem qq5 : qAA Tryz.prog 197 = 8 := rfl
@[simp] theorem qjM : qAA BB.P 197 = 8 := rfl
@[simp] theorem qm7 : qAA Tryz.prog 198 = 8 := rfl
@[simp] theorem qjS : qAA BB.P 198 = 8 := rfl
@[simp] theorem qsD : qAA Tryz.prog 199 = 8 := rfl
@[simp] theorem qlO : qAA BB.P 199 = 8 := rfl
@[simp] theorem qpT : qAA Tryz.prog 200 = 8 := rfl
@[simp] theorem qiB : qAA BB.P 200 = 8 := rfl
@[simp] theorem qn3 : qAA Tryz.prog 201 = 8 := rfl
@[simp] theorem qi0 : qAA BB.P 201 = 8 := rfl
@[simp] theorem qrF : qAA Tryz.prog 202 = 8 := rfl
@[simp] theorem qmT : qAA BB.P 202 = 8 := rfl
@[simp] theorem qsY : qAA Tryz.prog 204 = 8 := rfl
@[simp] theorem ql3 : qAA BB.P 204 = 8 := rfl
@[simp] theorem qnO : qAA Tryz.prog 205 = 8 := rfl
@[simp] theorem qjZ : qAA BB.P 205 = 8 := rfl
@[simp] theorem qqH : qAA Tryz.prog 206 = 8 := rfl
@[simp] theorem qlQ : qAA BB.P 206 = 8 := rfl
@[simp] theorem qnJ : qAA Tryz.prog 207 = 8 := rfl
@[simp] theorem qmQ : qAA BB.P 207 = 8 := rfl
@[simp] theorem qrL : qAA Tryz.prog 208 = 8 := rfl
@[simp] theorem qk6 : qAA BB.P 208 = 8 := rfl
@[simp] theorem qo6 : qAA Tryz.prog 209 = 8 := rfl
@[simp] theorem qh9 : qAA BB.P 209 = 8 := rfl
@[simp] theorem qrW : qAA Tryz.prog 210 = 8 := rfl
@[simp] theorem ql7 : qAA BB.P 210 = 8 := rfl
@[simp] theorem qoG : qAA Tryz.prog 211 = 8 := rfl
@[simp] theorem qiY : qAA BB.P 211 = 8 := rfl
@[simp] theorem qp8 : qAA Tryz.prog 212 = 8 := rfl
@[simp] theorem qiP : qAA BB.P 212 = 8 := rfl
@[simp] theorem qrG : qAA Tryz.prog 213 = 8 := rfl
@[simp] theorem qkZ : qAA BB.P 213 = 8 := rfl
@[simp] theorem qnT : qAA Tryz.prog 215 = 8 := rfl
@[simp] theorem qlJ : qAA BB.P 215 = 8 := rfl
@[simp] theorem qoR : qAA Tryz.prog 216 = 8 := rfl
@[simp] theorem ql1 : qAA BB.P 216 = 8 := rfl
@[simp] theorem qqE : qAA Tryz.prog 217 = 8 := rfl
@[simp] theorem qiZ : qAA BB.P 217 = 8 := rfl
@[simp] theorem qr7 : qAA Tryz.prog 219 = 8 := rfl
@[simp] theorem qh7 : qAA BB.P 219 = 8 := rfl
@[simp] theorem qoZ : qAA Tryz.prog 220 = 4 := rfl
@[simp] theorem qm2 : qAA BB.P 220 = 4 := rfl
@[simp] theorem qqU : qAA Tryz.prog 222 = 8 := rfl
@[simp] theorem qm3 : qAA BB.P 222 = 8 := rfl
@[simp] theorem qoM : qAA Tryz.prog 223 = 40 := rfl
@[simp] theorem qj3 : qAA BB.P 223 = 40 := rfl
@[simp] theorem qpY : qAA Tryz.prog 224 = 40 := rfl
@[simp] theorem qjA : qAA BB.P 224 = 40 := rfl
@[simp] theorem qrR : qAA Tryz.prog 228 = 8 := rfl
@[simp] theorem qkA : qAA BB.P 228 = 8 := rfl
@[simp] theorem qqM : qAA Tryz.prog 229 = 1 := rfl
@[simp] theorem qmD : qAA BB.P 229 = 1 := rfl
@[simp] theorem qrT : qAA Tryz.prog 230 = 1 := rfl
@[simp] theorem qi7 : qAA BB.P 230 = 1 := rfl
@[simp] theorem qoP : qAA Tryz.prog 231 = 8 := rfl
@[simp] theorem qiF : qAA BB.P 231 = 8 := rfl
@[simp] theorem qoH : qAA Tryz.prog 232 = 4 := rfl
@[simp] theorem qiH : qAA BB.P 232 = 4 := rfl
@[simp] theorem qrH : qAA Tryz.prog 233 = 4 := rfl
@[simp] theorem qlP : qAA BB.P 233 = 4 := rfl
@[simp] theorem qoU : qAA Tryz.prog 234 = 48 := rfl
@[simp] theorem qlF : qAA BB.P 234 = 48 := rfl
@[simp] theorem qsS : qAA Tryz.prog 235 = 48 := rfl
@[simp] theorem qkY : qAA BB.P 235 = 48 := rfl
theorem qjP (x : UInt8) : 0 ≤ (x.toNat : Int) ∧ (x.toNat : Int) ≤ 255 := by have := x.toNat_lt;omega
theorem obA {p : Prop} (h : p := by first|exact Ob.mk (qjP _)|(refine Ob.mk ?_;first|exact True.intro|assumption|omega|(simp only [ZA,ZB,ZC,ZD,ZE,ZF,ZG,ZH,ZI,ZJ,ZK,ZL,ZM,ZN,ZO,Int.toNat_natCast,UInt8.ofNat_toNat,cast_eq] at *;omega)|(show (_:Int) = _;omega)|(show qSL _ = _;with_unfolding_all rfl)|((first|show (_:Nat) ≤ _|show (_:Nat) ≤ _ ∧ (_:Nat) ≤ _|show (_:Int) ≤ _ ∧ (_:Int) ≤ _ ∧ (_:Int) ≤ _ ∧ (_:Int) ≤ _);(simp <;> omega)))|(show (_:Int) = _;omega)|(show qSL _ = _;with_unfolding_all rfl)|((first|show (_:Nat) ≤ _|show (_:Nat) ≤ _ ∧ (_:Nat) ≤ _|show (_:Int) ≤ _ ∧ (_:Int) ≤ _ ∧ (_:Int) ≤ _ ∧ (_:Int) ≤ _);(simp <;> omega))) : p := h
theorem vcA {p : Prop} (h : p := by (repeat' ((conv => whnf);first|exact qR|intro _|refine WA ?_ ?_|refine WF ?_|refine W1 rfl ?_ ?_|refine W2 rfl ?_ ?_|refine W3 rfl ?_ ?_|refine W4 ?_ ?_|refine W5 rfl ?_ ?_|refine W6 ?_ ?_|refine WN ?_|refine X1 (W1 rfl ?_ ?_)|refine X1 (W2 rfl ?_ ?_)|refine X2 (W7 rfl ?_ ?_)|refine X3 (W7 rfl ?_ ?_)|refine X4 (W7 rfl ?_ ?_)|refine X5 (W7 rfl ?_ ?_)));(all_goals (try (conv => whnf)));(all_goals (try first|exact obA|refine Ob.mk ?_));(all_goals (try rfl))) : p := h
end Go.Vc

namespace Go.Vc.W
open Go.Proofs
def isSp (c : Int) : Bool := c == 9 || c == 10 || c == 12 || c == 13 || c == 32
set_option maxRecDepth 10000
instance f31 (c : Int) : Fn BB 96 [.int .u8 c] True (.bool (isSp c)) := by
 refine Fn.intro (N := 10) [0,2,3,4] [] Tryz.call96 Tryz.func96 rfl rfl (by kernel_rfl) (fun hpre => ?_)
 repeat' ((conv => whnf);first|exact qR|intro _|refine WA ?_ ?_|refine WF ?_|refine W1 rfl ?_ ?_|refine W2 rfl ?_ ?_|refine W3 rfl ?_ ?_|refine W4 ?_ ?_|refine W5 rfl ?_ ?_|refine W6 ?_ ?_|refine WN ?_|refine X1 (W1 rfl ?_ ?_)|refine X1 (W2 rfl ?_ ?_)|refine X2 (W7 rfl ?_ ?_)|refine X3 (W7 rfl ?_ ?_)|refine X4 (W7 rfl ?_ ?_)|refine X5 (W7 rfl ?_ ?_))
 all_goals (try (conv => whnf))
 all_goals (simp_all [isSp];done)
instance f40 (c : Int) : Fn BB 72 [.int .u8 c] True (.bool (isSp c)) := by
 refine Fn.intro (N := 21) [0,2] [] Tryz.call72 Tryz.func72 rfl rfl (by kernel_rfl) (fun hpre => ?_)
 repeat' ((conv => whnf);first|exact qR|intro _|refine WA ?_ ?_|refine WF ?_|refine W1 rfl ?_ ?_|refine W2 rfl ?_ ?_|refine W3 rfl ?_ ?_|refine W4 ?_ ?_|refine W5 rfl ?_ ?_|refine W6 ?_ ?_|refine WN ?_|refine X1 (W1 rfl ?_ ?_)|refine X1 (W2 rfl ?_ ?_)|refine X2 (W7 rfl ?_ ?_)|refine X3 (W7 rfl ?_ ?_)|refine X4 (W7 rfl ?_ ?_)|refine X5 (W7 rfl ?_ ?_))
 all_goals (try (conv => whnf))
 all_goals (simp_all [isSp];done)
theorem take_snoc {α : Type} (l : List α) (i : Nat) (d : α) (h : i < l.length) : l.take (i + 1) = l.take i ++ [l.getD i d] := by
 rw [List.take_succ_eq_append_getElem h];simp [List.getD,List.getElem?_eq_getElem h]
theorem qHP (l : List (List UInt8)) (i : Nat) (w : List UInt8) (h : i < l.length) : (l.take (i+1)).contains w = ((l.take i).contains w || (l.getD i [] == w)) := by
 rw [take_snoc l i [] h]
 simp only [List.contains_eq_any_beq,List.any_append,List.any_cons,List.any_nil,Bool.or_false]
 congr 1
 exact Bool.beq_comm
instance f34 (l : List (List UInt8)) (w : List UInt8) : Fn BB 73 [.rd .str l,.str w] True (.bool (l.contains w)) := by
 refine Fn.intro (N := 18) [0,1,4,5,9,17] [] Tryz.call73 Tryz.func73 rfl rfl (by kernel_rfl) (fun hpre => ?_)
 (conv => whnf)
 refine LoopStop.mk (α := Nat) (fun i => [(5,.int .i64 i)]) (fun _ => []) 0 (fun i => i ≤ l.length ∧ (l.take i).contains w = false) (fun i => l.length - i) 0 (by simp) ?_ (fun i hi => ?_)
 ·repeat' ((conv => whnf);first|exact qR|intro _|refine WA ?_ ?_|refine WF ?_|refine W1 rfl ?_ ?_|refine W2 rfl ?_ ?_|refine W3 rfl ?_ ?_|refine W4 ?_ ?_|refine W5 rfl ?_ ?_|refine W6 ?_ ?_|refine WN ?_|refine X1 (W1 rfl ?_ ?_)|refine X1 (W2 rfl ?_ ?_)|refine X2 (W7 rfl ?_ ?_)|refine X3 (W7 rfl ?_ ?_)|refine X4 (W7 rfl ?_ ?_)|refine X5 (W7 rfl ?_ ?_))
  all_goals (try (conv => whnf))
  all_goals (try rfl)
 ·repeat' ((conv => whnf);first|exact qR|intro _|refine WA ?_ ?_|refine WF ?_|refine W1 rfl ?_ ?_|refine W2 rfl ?_ ?_|refine W3 rfl ?_ ?_|refine W4 ?_ ?_|refine W5 rfl ?_ ?_|refine W6 ?_ ?_|refine WN ?_|refine X1 (W1 rfl ?_ ?_)|refine X1 (W2 rfl ?_ ?_)|refine X2 (W7 rfl ?_ ?_)|refine X3 (W7 rfl ?_ ?_)|refine X4 (W7 rfl ?_ ?_)|refine X5 (W7 rfl ?_ ?_))
  all_goals (try (conv => whnf))
  all_goals (try first|exact obA|refine Ob.mk ?_)
  all_goals (try simp only [ZA,ZB,ZC,ZD,ZE,ZF,ZG,ZH,ZI,ZJ,ZK,ZL,ZM,ZN,ZO,Int.toNat_natCast,UInt8.ofNat_toNat,cast_eq] at *)
  ·rename_i h1 h2 h3
   have h4 : i < l.length := by omega
   rw [← h3];simp [List.getD,List.getElem?_eq_getElem h4]
  ·rename_i h1 h2 h3
   have h4 : i < l.length := by omega
   refine Rnd.mk ⟨i + 1,?_,?_,?_⟩
   ·refine ⟨by omega,?_⟩
    rw [qHP l i w h4,hi.2,Bool.false_or];exact beq_eq_false_iff_ne.mpr h3
   ·omega
   ·all_goals exact vcA
  ·rename_i h1 h2
   have : i = l.length := by omega
   subst this;simp_all
end Go.Vc.W

namespace Go.Vc.W
open Go.Proofs
set_option maxRecDepth 10000
def qC0 (p : List (List UInt8) × List UInt8) (c : UInt8) : List (List UInt8) × List UInt8 :=
 if isSp c.toNat then (if p.2 = [] then (p.1,[]) else (p.1 ++ [p.2],[])) else (p.1,p.2 ++ [c])
def qQO (p : List (List UInt8) × List UInt8) : List (List UInt8) := if p.2 = [] then p.1 else p.1 ++ [p.2]
def spl (s : List UInt8) : List (List UInt8) := qQO (s.foldl qC0 ([],[]))
def qEH (s : List UInt8) (i : Nat) : List (List UInt8) × List UInt8 := (s.take i).foldl qC0 ([],[])
theorem qCG (s : List UInt8) (i : Nat) (h : i < s.length) : qEH s (i + 1) = qC0 (qEH s i) (s.getD i 0) := by
 unfold qEH;rw [take_snoc s i 0 h,List.foldl_append];rfl
theorem qKF (s : List UInt8) (i : Nat) (h : s.length ≤ i) : qEH s i = s.foldl qC0 ([],[]) := by
 unfold qEH;rw [List.take_of_length_le h]
theorem qVU (p : List (List UInt8) × List UInt8) (c : UInt8) : (qC0 p c).1.length + (qC0 p c).2.length ≤ p.1.length + p.2.length + 1 := by
 unfold qC0
 by_cases h : isSp c.toNat = true
 ·by_cases h2 : p.2 = []
  ·simp [h,h2]
  ·have := List.length_pos_iff.mpr h2
   simp [h,h2]
 ·simp [h];omega
theorem qU6 (s : List UInt8) (i : Nat) : (qEH s i).1.length + (qEH s i).2.length ≤ i := by
 induction i with
 | zero => simp [qEH]
 | succ i ih =>
  by_cases h : i < s.length
  ·rw [qCG s i h];have := qVU (qEH s i) (s.getD i 0);omega
  ·have e : qEH s (i+1) = qEH s i := by rw [qKF s (i+1) (by omega),qKF s i (by omega)]
   rw [e];exact Nat.le_succ_of_le ih
theorem qNL (s : List UInt8) (i : Nat) (h : i < s.length) : (s.take (i+1)).drop i = [s.getD i 0] := by
 rw [take_snoc s i 0 h,List.drop_append,List.length_take,Nat.min_eq_left (by omega)];simp
theorem qN5 (i : Nat) : ((i:Int)+1).toNat = i+1 := by omega
theorem qbV {s : List UInt8} {i : Nat} (h : s.length ≤ i) (h2 : ¬ (qEH s i).2 = []) : spl s = (qEH s i).1 ++ [(qEH s i).2] := by
 unfold spl;rw [← qKF s i h];simp [qQO,h2]
theorem qb6 {s : List UInt8} {i : Nat} (h : s.length ≤ i) (h2 : (qEH s i).2 = []) : spl s = (qEH s i).1 := by
 unfold spl;rw [← qKF s i h];simp [qQO,h2]
theorem qFD {p : List (List UInt8) × List UInt8} {c : UInt8} (h : isSp c.toNat = false) : qC0 p c = (p.1,p.2 ++ [c]) := by
 simp [qC0,h]
theorem qHD {p : List (List UInt8) × List UInt8} {c : UInt8} (h : isSp c.toNat = true) (h2 : p.2 = []) : qC0 p c = (p.1,[]) := by
 simp [qC0,h,h2]
theorem qEJ {p : List (List UInt8) × List UInt8} {c : UInt8} (h : isSp c.toNat = true) (h2 : ¬ p.2 = []) : qC0 p c = (p.1 ++ [p.2],[]) := by
 simp [qC0,h,h2]
instance f35 (s : List UInt8) : Fn BB 43 [.str s] (s.length ≤ 100000) (.rd .str (spl s)) := by
 refine Fn.intro (N := 37) [0,2,3,4,5,9,16,25,31] [] Tryz.call43 Tryz.func43 rfl rfl (by kernel_rfl) (fun hpre => ?_)
 (conv => whnf)
 refine LoopStop.mk (α := Nat) (fun i => [(3,.own 0),(4,.str (qEH s i).2),(5,.int .i64 i)]) (fun i => [(0,.own .str (qEH s i).1)]) 1 (fun i => i ≤ s.length) (fun i => s.length - i) 0 (by simp) ?_ (fun i hi => ?_)
 ·repeat' ((conv => whnf);first|exact qR|intro _|refine WA ?_ ?_|refine WF ?_|refine W1 rfl ?_ ?_|refine W2 rfl ?_ ?_|refine W3 rfl ?_ ?_|refine W4 ?_ ?_|refine W5 rfl ?_ ?_|refine W6 ?_ ?_|refine WN ?_|refine X1 (W1 rfl ?_ ?_)|refine X1 (W2 rfl ?_ ?_)|refine X2 (W7 rfl ?_ ?_)|refine X3 (W7 rfl ?_ ?_)|refine X4 (W7 rfl ?_ ?_)|refine X5 (W7 rfl ?_ ?_))
  all_goals (try (conv => whnf))
  all_goals (try rfl)
 ·have hl := qU6 s i
  repeat' ((conv => whnf);first|exact qR|intro _|refine WA ?_ ?_|refine WF ?_|refine W1 rfl ?_ ?_|refine W2 rfl ?_ ?_|refine W3 rfl ?_ ?_|refine W4 ?_ ?_|refine W5 rfl ?_ ?_|refine W6 ?_ ?_|refine WN ?_|refine X1 (W1 rfl ?_ ?_)|refine X1 (W2 rfl ?_ ?_)|refine X2 (W7 rfl ?_ ?_)|refine X3 (W7 rfl ?_ ?_)|refine X4 (W7 rfl ?_ ?_)|refine X5 (W7 rfl ?_ ?_))
  all_goals (try (conv => whnf))
  all_goals (try first|exact obA|refine Ob.mk ?_)
  all_goals (try simp only [ZA,ZB,ZC,ZD,ZE,ZF,ZG,ZH,ZI,ZJ,ZK,ZL,ZM,ZN,ZO,Int.toNat_natCast,UInt8.ofNat_toNat,cast_eq] at *)
  ·have h : i < s.length := by omega
   have e := qCG s i h
   rw [qFD ‹_›] at e
   refine Rnd.mk ⟨i + 1,?_,?_,?_⟩
   ·exact h
   ·omega
   ·repeat' ((conv => whnf);first|exact qR|intro _|refine WA ?_ ?_|refine WF ?_|refine W1 rfl ?_ ?_|refine W2 rfl ?_ ?_|refine W3 rfl ?_ ?_|refine W4 ?_ ?_|refine W5 rfl ?_ ?_|refine W6 ?_ ?_|refine WN ?_|refine X1 (W1 rfl ?_ ?_)|refine X1 (W2 rfl ?_ ?_)|refine X2 (W7 rfl ?_ ?_)|refine X3 (W7 rfl ?_ ?_)|refine X4 (W7 rfl ?_ ?_)|refine X5 (W7 rfl ?_ ?_))
    all_goals (try (conv => whnf))
    all_goals (try first|exact obA|refine Ob.mk ?_)
    all_goals (simp only [e,qN5,qNL s i h];done)
  ·skip
   have h : i < s.length := by omega
   have e := qCG s i h
   rw [qEJ ‹_› ‹_›] at e
   repeat' ((conv => whnf);first|exact qR|intro _|refine WA ?_ ?_|refine WF ?_|refine W1 rfl ?_ ?_|refine W2 rfl ?_ ?_|refine W3 rfl ?_ ?_|refine W4 ?_ ?_|refine W5 rfl ?_ ?_|refine W6 ?_ ?_|refine WN ?_|refine X1 (W1 rfl ?_ ?_)|refine X1 (W2 rfl ?_ ?_)|refine X2 (W7 rfl ?_ ?_)|refine X3 (W7 rfl ?_ ?_)|refine X4 (W7 rfl ?_ ?_)|refine X5 (W7 rfl ?_ ?_))
   all_goals (try (conv => whnf))
   all_goals (try first|exact obA|refine Ob.mk ?_)
   refine Rnd.mk ⟨i + 1,?_,?_,?_⟩
   ·exact h
   ·omega
   ·repeat' ((conv => whnf);first|exact qR|intro _|refine WA ?_ ?_|refine WF ?_|refine W1 rfl ?_ ?_|refine W2 rfl ?_ ?_|refine W3 rfl ?_ ?_|refine W4 ?_ ?_|refine W5 rfl ?_ ?_|refine W6 ?_ ?_|refine WN ?_|refine X1 (W1 rfl ?_ ?_)|refine X1 (W2 rfl ?_ ?_)|refine X2 (W7 rfl ?_ ?_)|refine X3 (W7 rfl ?_ ?_)|refine X4 (W7 rfl ?_ ?_)|refine X5 (W7 rfl ?_ ?_))
    all_goals (try (conv => whnf))
    all_goals (try first|exact obA|refine Ob.mk ?_)
    all_goals (simp only [e];done)
  ·have h : i < s.length := by omega
   have e := qCG s i h
   rw [qHD ‹_› ‹_›] at e
   refine Rnd.mk ⟨i + 1,?_,?_,?_⟩
   ·exact h
   ·omega
   ·repeat' ((conv => whnf);first|exact qR|intro _|refine WA ?_ ?_|refine WF ?_|refine W1 rfl ?_ ?_|refine W2 rfl ?_ ?_|refine W3 rfl ?_ ?_|refine W4 ?_ ?_|refine W5 rfl ?_ ?_|refine W6 ?_ ?_|refine WN ?_|refine X1 (W1 rfl ?_ ?_)|refine X1 (W2 rfl ?_ ?_)|refine X2 (W7 rfl ?_ ?_)|refine X3 (W7 rfl ?_ ?_)|refine X4 (W7 rfl ?_ ?_)|refine X5 (W7 rfl ?_ ?_))
    all_goals (try (conv => whnf))
    all_goals (try first|exact obA|refine Ob.mk ?_)
    all_goals (simp only [e];done)
  ·skip
   repeat' ((conv => whnf);first|exact qR|intro _|refine WA ?_ ?_|refine WF ?_|refine W1 rfl ?_ ?_|refine W2 rfl ?_ ?_|refine W3 rfl ?_ ?_|refine W4 ?_ ?_|refine W5 rfl ?_ ?_|refine W6 ?_ ?_|refine WN ?_|refine X1 (W1 rfl ?_ ?_)|refine X1 (W2 rfl ?_ ?_)|refine X2 (W7 rfl ?_ ?_)|refine X3 (W7 rfl ?_ ?_)|refine X4 (W7 rfl ?_ ?_)|refine X5 (W7 rfl ?_ ?_))
   all_goals (try (conv => whnf))
   rw [qbV (i := i) (by omega) ‹_›]
  ·rw [qb6 (i := i) (by omega) ‹_›]
end Go.Vc.W

namespace Go.Vc.W
open Go.Proofs
set_option maxRecDepth 10000
instance f29 (s w : List UInt8) : Fn BB 47 [.str s,.str w] (s.length ≤ 100000) (.bool ((spl s).contains w)) := by
 refine Fn.intro (N := 9) [0,1,4] [] Tryz.call47 Tryz.func47 rfl rfl (by kernel_rfl) (fun hpre => ?_)
 all_goals exact vcA
theorem qJZ {l : List (List UInt8)} {i : Nat} (h : i < l.length) : l.contains (l.getD i []) = true := by
 simp [List.getD,List.getElem?_eq_getElem h]
def qQX (l : List (List UInt8)) (w : List UInt8) : Int := if l.contains w then (l.idxOf w : Int) else -1
theorem qHB {l : List (List UInt8)} {w : List UInt8} (h : l.contains w = false) : qQX l w = -1 := by rw [qQX,h];rfl
theorem qNX {l : List (List UInt8)} {w : List UInt8} {i : Nat} (h : i < l.length) (h1 : (l.take i).contains w = false) (h2 : w = l.getD i []) : qQX l w = i := by
 rw [qQX,h2,qJZ h, ← h2,if_pos rfl]
 have e := List.take_append_drop i l
 rw [← e,List.idxOf_append,if_neg (by simpa using h1),List.length_take,Nat.min_eq_left (by omega)]
 have e2 : l.drop i = w :: l.drop (i+1) := by rw [List.drop_eq_getElem_cons h,h2];simp [List.getD,List.getElem?_eq_getElem h]
 rw [e2,List.idxOf_cons_self];simp
instance f37 (l : List (List UInt8)) (w : List UInt8) : Fn BB 217 [.rd .str l,.str w] True (.int .i64 (qQX l w)) := by
 refine Fn.intro (N := 19) [0,1,4,5,7,8,9,16] [] Tryz.call217 Tryz.func217 rfl rfl (by kernel_rfl) (fun hpre => ?_)
 (conv => whnf)
 intro hlen
 (conv => whnf)
 refine LoopStop.mk (α := Nat) (fun i => [(8,.int .i64 i)]) (fun i => []) 0 (fun i => i ≤ l.length ∧ (l.take i).contains w = false) (fun i => l.length - i) 0 (by simp) ?_ (fun i hi => ?_)
 ·repeat' ((conv => whnf);first|exact qR|intro _|refine WA ?_ ?_|refine WF ?_|refine W1 rfl ?_ ?_|refine W2 rfl ?_ ?_|refine W3 rfl ?_ ?_|refine W4 ?_ ?_|refine W5 rfl ?_ ?_|refine W6 ?_ ?_|refine WN ?_|refine X1 (W1 rfl ?_ ?_)|refine X1 (W2 rfl ?_ ?_)|refine X2 (W7 rfl ?_ ?_)|refine X3 (W7 rfl ?_ ?_)|refine X4 (W7 rfl ?_ ?_)|refine X5 (W7 rfl ?_ ?_))
  all_goals (try (conv => whnf))
  all_goals (try rfl)
 ·repeat' ((conv => whnf);first|exact qR|intro _|refine WA ?_ ?_|refine WF ?_|refine W1 rfl ?_ ?_|refine W2 rfl ?_ ?_|refine W3 rfl ?_ ?_|refine W4 ?_ ?_|refine W5 rfl ?_ ?_|refine W6 ?_ ?_|refine WN ?_|refine X1 (W1 rfl ?_ ?_)|refine X1 (W2 rfl ?_ ?_)|refine X2 (W7 rfl ?_ ?_)|refine X3 (W7 rfl ?_ ?_)|refine X4 (W7 rfl ?_ ?_)|refine X5 (W7 rfl ?_ ?_))
  all_goals (try (conv => whnf))
  all_goals (try first|exact obA|refine Ob.mk ?_)
  all_goals (try simp only [ZA,ZB,ZC,ZD,ZE,ZF,ZG,ZH,ZI,ZJ,ZK,ZL,ZM,ZN,ZO,Int.toNat_natCast,UInt8.ofNat_toNat,cast_eq] at *)
  ·rw [qNX (by omega) hi.2 ‹_›]
  ·have h : i < l.length := by omega
   refine Rnd.mk ⟨i + 1,?_,?_,?_⟩
   ·refine ⟨by omega,?_⟩
    rw [qHP l i w h,hi.2,Bool.false_or];exact beq_eq_false_iff_ne.mpr (fun e => by simp_all)
   ·omega
   ·all_goals exact vcA
  ·have : i = l.length := by omega
   subst this
   rw [qHB (by simpa using hi.2)]
instance f32 (l : List (List UInt8)) (w : List UInt8) : Fn BB 148 [.rd .str l,.str w] True (.bool (decide (qQX l w ≥ 0))) := by
 refine Fn.intro (N := 9) [0,1,4] [] Tryz.call148 Tryz.func148 rfl rfl (by kernel_rfl) (fun hpre => ?_)
 all_goals exact vcA
end Go.Vc.W

namespace Go.Vc.W
open Go.Proofs
set_option maxRecDepth 10000
def spR (r : Int) : Bool := decide (r < 128) && isSp (IntKind.u8.wrap r)
instance f39 (r : Int) : Fn BB 95 [.int .i32 r] (0 ≤ r) (.bool (spR r)) := by
 refine Fn.intro (N := 10) [0,2] [] Tryz.call95 Tryz.func95 rfl rfl (by kernel_rfl) (fun hpre => ?_)
 all_goals exact vcA
theorem getB (s : List UInt8) (j : Nat) : (ByteArray.get! ⟨s.toArray⟩ j) = s.getD j 0 := by
 by_cases h : j < s.length
 ·have : j < s.toArray.size := by simpa using h
  simp [ByteArray.get!,List.getD,h]
 ·simp [ByteArray.get!,List.getD,h];rfl
theorem qDF (s : List UInt8) (pos : Nat) (h : pos < s.length) : 1 ≤ (qEX s pos).2 ∧ pos + (qEX s pos).2 ≤ s.length ∧
  (if (qEX s pos).1 < 128 then (qEX s pos).2 = 1 ∧ (qEX s pos).1 = (s.getD pos 0).toNat else ∀ j,pos ≤ j → j < pos + (qEX s pos).2 → 128 ≤ (s.getD j 0).toNat) := by
 have hsz : ByteArray.size ⟨s.toArray⟩ = s.length := by simp [ByteArray.size]
 have hb : ∀ j,(s.getD j 0).toNat < 256 := fun j => UInt8.toNat_lt _
 unfold qEX Utf8.decode
 simp only [getB,hsz,Nat.add_zero]
 generalize e0 : (s.getD pos 0).toNat = b0
 generalize e1 : (s.getD (pos+1) 0).toNat = b1
 generalize e2 : (s.getD (pos+2) 0).toNat = b2
 generalize e3 : (s.getD (pos+3) 0).toNat = b3
 have k0 := hb pos
 have k1 := hb (pos+1)
 have k2 := hb (pos+2)
 have k3 := hb (pos+3)
 rw [e0] at k0;rw [e1] at k1;rw [e2] at k2;rw [e3] at k3
 have one : ∀ j,pos ≤ j → j < pos + 1 → (s.getD j 0).toNat = b0 := fun j h1 h2 => by
  have : j = pos := by omega
  subst this;exact e0
 split
 ·simp;omega
 ·rename_i hb0
  have fallb : ∀ j,pos ≤ j → j < pos + 1 → 128 ≤ (s.getD j 0).toNat := fun j h1 h2 => by rw [one j h1 h2];omega
  have err : 1 ≤ ((Utf8.runeError,1) : Nat × Nat).2 ∧ pos + ((Utf8.runeError,1) : Nat × Nat).2 ≤ s.length ∧ (if ((Utf8.runeError,1) : Nat × Nat).1 < 128 then ((Utf8.runeError,1) : Nat × Nat).2 = 1 ∧ ((Utf8.runeError,1) : Nat × Nat).1 = b0 else ∀ j,pos ≤ j → j < pos + ((Utf8.runeError,1) : Nat × Nat).2 → 128 ≤ (s.getD j 0).toNat) := by
   refine ⟨Nat.le_refl _,h,?_⟩
   rw [if_neg (by decide)];exact fallb
  split
  ·rename_i h2
   simp only [Bool.and_eq_true,decide_eq_true_eq,beq_iff_eq] at h2
   split
   ·refine ⟨by simp,by simp;omega,?_⟩
    rw [if_neg (by simp;omega)]
    intro j h3 h4
    have : j = pos ∨ j = pos + 1 := by simp at h4;omega
    rcases this with rfl | rfl
    ·rw [e0];omega
    ·rw [e1];omega
   ·exact err
  ·split
   ·rename_i h2
    simp only [Bool.and_eq_true,decide_eq_true_eq,beq_iff_eq] at h2
    split
    ·rename_i h5
     simp only [Bool.and_eq_true,decide_eq_true_eq,beq_iff_eq] at h5
     refine ⟨by simp,by simp;omega,?_⟩
     rw [if_neg (by simp;omega)]
     intro j h3 h4
     have : j = pos ∨ j = pos + 1 ∨ j = pos + 2 := by simp at h4;omega
     rcases this with rfl | rfl | rfl
     ·rw [e0];omega
     ·rw [e1];omega
     ·rw [e2];omega
    ·exact err
   ·split
    ·rename_i h2
     simp only [Bool.and_eq_true,decide_eq_true_eq,beq_iff_eq] at h2
     split
     ·rename_i h5
      simp only [Bool.and_eq_true,decide_eq_true_eq,beq_iff_eq] at h5
      refine ⟨by simp,by simp;omega,?_⟩
      rw [if_neg (by simp;omega)]
      intro j h3 h4
      have : j = pos ∨ j = pos + 1 ∨ j = pos + 2 ∨ j = pos + 3 := by simp at h4;omega
      rcases this with rfl | rfl | rfl | rfl
      ·rw [e0];omega
      ·rw [e1];omega
      ·rw [e2];omega
      ·rw [e3];omega
     ·exact err
    ·exact err
def cut (s : List UInt8) (p : Int × Int) : List UInt8 := (s.take p.2.toNat).drop p.1.toNat
theorem qZ3 {c : Nat} (h : 128 ≤ c) : isSp c = false := by
 simp only [isSp,Bool.or_eq_false_iff,beq_eq_false_iff_ne];omega
theorem qKI (s : List UInt8) (i pos : Nat) (h : i ≤ pos) (h2 : pos < s.length) : cut s (i,(pos+1:Nat)) = cut s (i,pos) ++ [s.getD pos 0] := by
 unfold cut
 simp only [Int.toNat_natCast]
 rw [take_snoc s pos 0 h2,List.drop_append_of_le_length (by rw [List.length_take];omega)]
theorem qUD (s : List UInt8) (pos k : Nat) (h : pos + k ≤ s.length) (hh : ∀ j,pos ≤ j → j < pos + k → isSp (s.getD j 0).toNat = false) :
  qEH s (pos + k) = ((qEH s pos).1,(qEH s pos).2 ++ cut s (pos,(pos + k : Nat))) := by
 induction k with
 | zero => simp [cut]
 | succ k ih =>
  rw [← Nat.add_assoc,qCG s _ (by omega),qFD (hh _ (by omega) (by omega)),ih (by omega) (fun j h1 h2 => hh j h1 (by omega)),qKI s pos (pos+k) (by omega) (by omega)]
  simp
theorem qf6 (s : List UInt8) (i j k : Nat) (h : i ≤ j) (h2 : j ≤ k) (h3 : k ≤ s.length) : cut s (i,j) ++ cut s (j,k) = cut s (i,k) := by
  induction k with
  | zero => have : j = 0 := by omega
            have : i = 0 := by omega
            subst_vars;simp [cut]
  | succ k ih =>
    by_cases e : j = k + 1
    · subst e;simp [cut]
    · rw [qKI s j k (by omega) (by omega),qKI s i k (by omega) (by omega), ← List.append_assoc,ih (by omega) (by omega)]
end Go.Vc.W

namespace Go.Vc.W
open Go.Proofs
set_option maxRecDepth 10000
structure FS where
 pos : Nat
 spans : List (Int × Int)
 start : Int
structure FSok (s : List UInt8) (a : FS) : Prop where
 hp : a.pos ≤ s.length
 hs : a.spans.map (cut s) = (qEH s a.pos).1
 hr : ∀ p ∈ a.spans,0 ≤ p.1 ∧ p.1 ≤ p.2 ∧ p.2 ≤ s.length
 hb : -(s.length : Int) - 1 ≤ a.start ∧ a.start ≤ s.length
 hw : if a.start < 0 then (qEH s a.pos).2 = [] else a.start < a.pos ∧ (qEH s a.pos).2 = cut s (a.start,a.pos)
theorem FSok.len {s : List UInt8} {a : FS} (h : FSok s a) : a.spans.length ≤ a.pos := by
 have := qU6 s a.pos
 rw [← h.hs,List.length_map] at this;omega
theorem qeK {s : List UInt8} {i : Int} {j : Nat} (h0 : 0 ≤ i) (h : i < j) (h2 : j ≤ s.length) : ¬ cut s (i,j) = [] := by
 intro e
 have := congrArg List.length e
 simp [cut] at this
 omega
theorem qU2 {s : List UInt8} {pos : Nat} (h : pos < s.length) :
  (spR (qEX s pos).1 = true → (qEX s pos).2 = 1 ∧ isSp (s.getD pos 0).toNat = true) ∧
  (spR (qEX s pos).1 = false → pos < pos + (qEX s pos).2 ∧ pos + (qEX s pos).2 ≤ s.length ∧ ∀ j,pos ≤ j → j < pos + (qEX s pos).2 → isSp (s.getD j 0).toNat = false) := by
 have ⟨d1,d2,d3⟩ := qDF s pos h
 have hw : (qEX s pos).1 < 128 → IntKind.u8.wrap ((qEX s pos).1 : Int) = (qEX s pos).1 := fun hh => by
  simp [IntKind.wrap,IntKind.signed,IntKind.bits];omega
 by_cases hh : (qEX s pos).1 < 128
 ·rw [if_pos hh] at d3
  have e : spR (qEX s pos).1 = isSp (s.getD pos 0).toNat := by
   unfold spR;rw [hw hh,decide_eq_true (by omega),Bool.true_and,d3.2]
  rw [e]
  refine ⟨fun k => ⟨d3.1,k⟩,fun k => ⟨by omega,d2,fun j h1 h2 => ?_⟩⟩
  have : j = pos := by omega
  subst this;exact k
 ·rw [if_neg hh] at d3
  have e : spR (qEX s pos).1 = false := by unfold spR;simp;intro k;omega
  rw [e]
  refine ⟨fun k => (nomatch k),fun _ => ⟨by omega,d2,fun j h1 h2 => qZ3 (d3 j h1 h2)⟩⟩
theorem qe5 {s : List UInt8} {a : FS} (h : FSok s a) (h1 : a.pos < s.length) (h2 : spR (qEX s a.pos).1 = true) (h3 : 0 ≤ a.start) :
  FSok s ⟨a.pos + (qEX s a.pos).2,a.spans ++ [(a.start,(a.pos:Int))], -a.start - 1⟩ := by
 have ⟨e1,e2⟩ := (qU2 h1).1 h2
 have hw := h.hw;rw [if_neg (by omega)] at hw
 have hb := h.hb
 have e := qCG s a.pos h1
 rw [qEJ e2 (by rw [hw.2];exact qeK h3 hw.1 h.hp)] at e
 constructor
 ·simp only [e1];omega
 ·simp only [e1,e,List.map_append,h.hs,hw.2];rfl
 ·intro p hp
  rcases List.mem_append.mp hp with hp | hp
  ·exact h.hr p hp
  ·simp at hp;subst hp;simp;omega
 ·simp;omega
 ·rw [if_pos (by simp;omega)];simp only [e1,e]
theorem qeF {s : List UInt8} {a : FS} (h : FSok s a) (h1 : a.pos < s.length) (h2 : spR (qEX s a.pos).1 = true) (h3 : a.start < 0) :
  FSok s ⟨a.pos + (qEX s a.pos).2,a.spans,a.start⟩ := by
 have ⟨e1,e2⟩ := (qU2 h1).1 h2
 have hw := h.hw;rw [if_pos (by omega)] at hw
 have e := qCG s a.pos h1
 rw [qHD e2 hw] at e
 constructor
 ·simp only [e1];omega
 ·simp only [e1,e,h.hs]
 ·exact h.hr
 ·exact h.hb
 ·rw [if_pos (by simpa using h3)];simp only [e1,e]
theorem qeU {s : List UInt8} {a : FS} (h : FSok s a) (h1 : a.pos < s.length) (h2 : spR (qEX s a.pos).1 = false) (h3 : 0 ≤ a.start) :
  FSok s ⟨a.pos + (qEX s a.pos).2,a.spans,a.start⟩ := by
 have ⟨e0,e1,e2⟩ := (qU2 h1).2 h2
 have hw := h.hw;rw [if_neg (by omega)] at hw
 have e := qUD s a.pos _ e1 e2
 constructor
 ·exact e1
 ·simp only [e,h.hs]
 ·exact h.hr
 ·exact h.hb
 ·rw [if_neg (by simp;omega)];simp only [e]
  refine ⟨by omega,?_⟩
  rw [hw.2]
  obtain ⟨i,hi⟩ : ∃ i : Nat,a.start = i := ⟨a.start.toNat,by omega⟩
  rw [hi,qf6 s i a.pos _ (by omega) (by omega) e1]
theorem qeT {s : List UInt8} {a : FS} (h : FSok s a) (h1 : a.pos < s.length) (h2 : spR (qEX s a.pos).1 = false) (h3 : a.start < 0) :
  FSok s ⟨a.pos + (qEX s a.pos).2,a.spans,(a.pos : Int)⟩ := by
 have ⟨e0,e1,e2⟩ := (qU2 h1).2 h2
 have hw := h.hw;rw [if_pos (by omega)] at hw
 have e := qUD s a.pos _ e1 e2
 constructor
 ·exact e1
 ·simp only [e,h.hs]
 ·exact h.hr
 ·simp;omega
 ·rw [if_neg (by simp)];simp only [e]
  refine ⟨by omega,?_⟩
  rw [hw];rfl
theorem qY0 {s : List UInt8} {a : FS} (h : FSok s a) (h1 : ¬ a.pos < s.length) (h3 : 0 ≤ a.start) :
  (a.spans ++ [(a.start,(s.length:Int))]).map (cut s) = spl s ∧ ∀ p ∈ (a.spans ++ [(a.start,(s.length:Int))]),0 ≤ p.1 ∧ p.1 ≤ p.2 ∧ p.2 ≤ s.length := by
 have hp := h.hp
 have e : a.pos = s.length := by omega
 have hw := h.hw;rw [if_neg (by omega)] at hw
 have hb := h.hb
 refine ⟨?_,?_⟩
 ·rw [qbV (i := a.pos) (by omega) (by rw [hw.2];exact qeK h3 hw.1 h.hp),hw.2, ← h.hs,e,List.map_append];rfl
 ·intro p hp
  rcases List.mem_append.mp hp with hp | hp
  ·exact h.hr p hp
  ·simp at hp;subst hp;simp;omega
theorem qYX {s : List UInt8} {a : FS} (h : FSok s a) (h1 : ¬ a.pos < s.length) (h3 : a.start < 0) :
  a.spans.map (cut s) = spl s ∧ ∀ p ∈ a.spans,0 ≤ p.1 ∧ p.1 ≤ p.2 ∧ p.2 ≤ s.length := by
 have hp := h.hp
 have e : a.pos = s.length := by omega
 have hw := h.hw;rw [if_pos (by omega)] at hw
 exact ⟨by rw [qb6 (i := a.pos) (by omega) hw,h.hs],h.hr⟩
end Go.Vc.W

namespace Go.Vc.W
open Go.Proofs
set_option maxRecDepth 10000
theorem qUN (x : Int) (h : -100001 ≤ x ∧ x ≤ 100000) : qL3 BinOp.xor IntKind.i64 (if IntKind.i64.signed = true then -1 else IntKind.i64.max) x = -x - 1 := by
 have e : (if IntKind.i64.signed = true then (-1:Int) else IntKind.i64.max) = -1 := rfl
 rw [e]
 show IntKind.wrap .i64 ((BitVec.ofInt 64 (-1) ^^^ BitVec.ofInt 64 x).toNat : Int) = _
 have e2 : BitVec.ofInt 64 (-1) = BitVec.allOnes 64 := by decide
 rw [e2,BitVec.allOnes_xor,BitVec.toNat_not,BitVec.toNat_ofInt]
 simp [IntKind.wrap,IntKind.signed,IntKind.bits]
 omega
def fin2 (s : List UInt8) (sp : List (Int × Int)) (i : Nat) : List (List UInt8) := (sp.take i).map (cut s) ++ List.replicate (sp.length - i) []
theorem qDX (s : List UInt8) (sp : List (Int × Int)) (i : Nat) (h : i ≤ sp.length) : (fin2 s sp i).length = sp.length := by
 simp [fin2];omega
theorem qJ4 (s : List UInt8) (sp : List (Int × Int)) (i : Nat) (h : i < sp.length) : (fin2 s sp i).set i (cut s (sp.getD i (0,0))) = fin2 s sp (i+1) := by
 unfold fin2
 rw [take_snoc sp i (0,0) h]
 have e : sp.length - i = (sp.length - (i+1)) + 1 := by omega
 rw [e,List.replicate_succ,List.set_append_right _ _ (by simp;omega)]
 simp
 have : i - min i sp.length = 0 := by omega
 rw [this];simp
theorem qKH (s : List UInt8) (sp : List (Int × Int)) (i : Nat) (h : sp.length ≤ i) : fin2 s sp i = sp.map (cut s) := by
 unfold fin2;rw [List.take_of_length_le h];simp;omega
theorem qHJ {α : Type} {l : List α} {i : Nat} {d : α} (h : i < l.length) : l.getD i d ∈ l := by
 simp [List.getD,List.getElem?_eq_getElem h]
instance f38 (s : List UInt8) : Fn BB 94 [.str s,.fn 95 []] (s.length ≤ 100000) (.rd .str (spl s)) := by
 refine Fn.intro (N := 65) [0,1,4,5,6,7,8,9,10,11,14,15,16,21,23,33,36,47,48,49,50] [] Tryz.call94 Tryz.func94 rfl rfl (by kernel_rfl) (fun hpre => ?_)
 repeat' ((conv => whnf);first|exact qR|intro _|refine WA ?_ ?_|refine WF ?_|refine W1 rfl ?_ ?_|refine W2 rfl ?_ ?_|refine W3 rfl ?_ ?_|refine W4 ?_ ?_|refine W5 rfl ?_ ?_|refine W6 ?_ ?_|refine WN ?_|refine X1 (W1 rfl ?_ ?_)|refine X1 (W2 rfl ?_ ?_)|refine X2 (W7 rfl ?_ ?_)|refine X3 (W7 rfl ?_ ?_)|refine X4 (W7 rfl ?_ ?_)|refine X5 (W7 rfl ?_ ?_))
 all_goals (try (conv => whnf))
 all_goals (try first|exact obA|refine Ob.mk ?_)
 repeat' ((conv => whnf);first|exact qR|intro _|refine WA ?_ ?_|refine WF ?_|refine W1 rfl ?_ ?_|refine W2 rfl ?_ ?_|refine W3 rfl ?_ ?_|refine W4 ?_ ?_|refine W5 rfl ?_ ?_|refine W6 ?_ ?_|refine WN ?_|refine X1 (W1 rfl ?_ ?_)|refine X1 (W2 rfl ?_ ?_)|refine X2 (W7 rfl ?_ ?_)|refine X3 (W7 rfl ?_ ?_)|refine X4 (W7 rfl ?_ ?_)|refine X5 (W7 rfl ?_ ?_))
 all_goals (try (conv => whnf))
 refine LoopStop.mk (α := FS) (fun a => [(5,.own 0),(6,.int .i64 a.start)]) (fun a => [(0,.own qs6 a.spans),(1,.iter s a.pos)]) 2 (FSok s) (fun a => s.length - a.pos) ⟨0,[], -1⟩ ⟨by simp,by simp [qEH],by simp,by simp;omega,by simp [qEH]⟩ ?_ (fun a ha => ?_)
 ·repeat' ((conv => whnf);first|exact qR|intro _|refine WA ?_ ?_|refine WF ?_|refine W1 rfl ?_ ?_|refine W2 rfl ?_ ?_|refine W3 rfl ?_ ?_|refine W4 ?_ ?_|refine W5 rfl ?_ ?_|refine W6 ?_ ?_|refine WN ?_|refine X1 (W1 rfl ?_ ?_)|refine X1 (W2 rfl ?_ ?_)|refine X2 (W7 rfl ?_ ?_)|refine X3 (W7 rfl ?_ ?_)|refine X4 (W7 rfl ?_ ?_)|refine X5 (W7 rfl ?_ ?_))
  all_goals (try (conv => whnf))
  all_goals (try rfl)
  all_goals trace_state
 ·have hl := ha.len
  have h1 := ha.hp
  have h2 := ha.hb
  repeat' ((conv => whnf);first|exact qR|intro _|refine WA ?_ ?_|refine WF ?_|refine W1 rfl ?_ ?_|refine W2 rfl ?_ ?_|refine W3 rfl ?_ ?_|refine W4 ?_ ?_|refine W5 rfl ?_ ?_|refine W6 ?_ ?_|refine WN ?_|refine X1 (W1 rfl ?_ ?_)|refine X1 (W2 rfl ?_ ?_)|refine X2 (W7 rfl ?_ ?_)|refine X3 (W7 rfl ?_ ?_)|refine X4 (W7 rfl ?_ ?_)|refine X5 (W7 rfl ?_ ?_))
  all_goals (try (conv => whnf))
  all_goals (try first|exact obA|refine Ob.mk ?_)
  all_goals (try simp only [ZA,ZB,ZC,ZD,ZE,ZF,ZG,ZH,ZI,ZJ,ZK,ZL,ZM,ZN,ZO,Int.toNat_natCast,UInt8.ofNat_toNat,cast_eq] at *)
  ·skip
   repeat' ((conv => whnf);first|exact qR|intro _|refine WA ?_ ?_|refine WF ?_|refine W1 rfl ?_ ?_|refine W2 rfl ?_ ?_|refine W3 rfl ?_ ?_|refine W4 ?_ ?_|refine W5 rfl ?_ ?_|refine W6 ?_ ?_|refine WN ?_|refine X1 (W1 rfl ?_ ?_)|refine X1 (W2 rfl ?_ ?_)|refine X2 (W7 rfl ?_ ?_)|refine X3 (W7 rfl ?_ ?_)|refine X4 (W7 rfl ?_ ?_)|refine X5 (W7 rfl ?_ ?_))
   all_goals (try (conv => whnf))
   all_goals (try first|exact obA|refine Ob.mk ?_)
   refine Rnd.mk ⟨⟨a.pos + (qEX s a.pos).2,a.spans ++ [(a.start,(a.pos:Int))], -a.start - 1⟩,?_,?_,?_⟩
   ·exact qe5 ha ‹_› ‹_› (by omega)
   ·have := (qDF s a.pos ‹_›).1;simp;omega
   ·repeat' ((conv => whnf);first|exact qR|intro _|refine WA ?_ ?_|refine WF ?_|refine W1 rfl ?_ ?_|refine W2 rfl ?_ ?_|refine W3 rfl ?_ ?_|refine W4 ?_ ?_|refine W5 rfl ?_ ?_|refine W6 ?_ ?_|refine WN ?_|refine X1 (W1 rfl ?_ ?_)|refine X1 (W2 rfl ?_ ?_)|refine X2 (W7 rfl ?_ ?_)|refine X3 (W7 rfl ?_ ?_)|refine X4 (W7 rfl ?_ ?_)|refine X5 (W7 rfl ?_ ?_))
    all_goals (try (conv => whnf))
    all_goals (try first|exact obA|refine Ob.mk ?_)
    all_goals (first | (rw [qUN _ (by omega)];done) | skip)
    all_goals trace_state
  ·have := (qDF s a.pos ‹_›).1
   refine Rnd.mk ⟨⟨a.pos + (qEX s a.pos).2,a.spans,a.start⟩,?_,?_,?_⟩
   ·exact qeF ha ‹_› ‹_› (by omega)
   ·simp;omega
   ·repeat' ((conv => whnf);first|exact qR|intro _|refine WA ?_ ?_|refine WF ?_|refine W1 rfl ?_ ?_|refine W2 rfl ?_ ?_|refine W3 rfl ?_ ?_|refine W4 ?_ ?_|refine W5 rfl ?_ ?_|refine W6 ?_ ?_|refine WN ?_|refine X1 (W1 rfl ?_ ?_)|refine X1 (W2 rfl ?_ ?_)|refine X2 (W7 rfl ?_ ?_)|refine X3 (W7 rfl ?_ ?_)|refine X4 (W7 rfl ?_ ?_)|refine X5 (W7 rfl ?_ ?_))
    all_goals (try (conv => whnf))
    all_goals (try first|exact obA|refine Ob.mk ?_)
    all_goals trace_state
  ·have := (qDF s a.pos ‹_›).1
   refine Rnd.mk ⟨⟨a.pos + (qEX s a.pos).2,a.spans,a.pos⟩,?_,?_,?_⟩
   ·exact qeT ha ‹_› ‹_› (by omega)
   ·simp;omega
   ·repeat' ((conv => whnf);first|exact qR|intro _|refine WA ?_ ?_|refine WF ?_|refine W1 rfl ?_ ?_|refine W2 rfl ?_ ?_|refine W3 rfl ?_ ?_|refine W4 ?_ ?_|refine W5 rfl ?_ ?_|refine W6 ?_ ?_|refine WN ?_|refine X1 (W1 rfl ?_ ?_)|refine X1 (W2 rfl ?_ ?_)|refine X2 (W7 rfl ?_ ?_)|refine X3 (W7 rfl ?_ ?_)|refine X4 (W7 rfl ?_ ?_)|refine X5 (W7 rfl ?_ ?_))
    all_goals (try (conv => whnf))
    all_goals (try first|exact obA|refine Ob.mk ?_)
    all_goals trace_state
  ·have := (qDF s a.pos ‹_›).1
   refine Rnd.mk ⟨⟨a.pos + (qEX s a.pos).2,a.spans,a.start⟩,?_,?_,?_⟩
   ·exact qeU ha ‹_› ‹_› (by omega)
   ·simp;omega
   ·repeat' ((conv => whnf);first|exact qR|intro _|refine WA ?_ ?_|refine WF ?_|refine W1 rfl ?_ ?_|refine W2 rfl ?_ ?_|refine W3 rfl ?_ ?_|refine W4 ?_ ?_|refine W5 rfl ?_ ?_|refine W6 ?_ ?_|refine WN ?_|refine X1 (W1 rfl ?_ ?_)|refine X1 (W2 rfl ?_ ?_)|refine X2 (W7 rfl ?_ ?_)|refine X3 (W7 rfl ?_ ?_)|refine X4 (W7 rfl ?_ ?_)|refine X5 (W7 rfl ?_ ?_))
    all_goals (try (conv => whnf))
    all_goals (try first|exact obA|refine Ob.mk ?_)
    all_goals trace_state
  ·skip
   have hh := qY0 ha ‹_› (by omega)
   have hlen : (a.spans ++ [(a.start,(s.length:Int))]).length ≤ s.length + 1 := by simp;omega
   revert hh hlen
   generalize a.spans ++ [(a.start,(s.length:Int))] = sp
   intro hh hlen
   repeat' ((conv => whnf);first|exact qR|intro _|refine WA ?_ ?_|refine WF ?_|refine W1 rfl ?_ ?_|refine W2 rfl ?_ ?_|refine W3 rfl ?_ ?_|refine W4 ?_ ?_|refine W5 rfl ?_ ?_|refine W6 ?_ ?_|refine WN ?_|refine X1 (W1 rfl ?_ ?_)|refine X1 (W2 rfl ?_ ?_)|refine X2 (W7 rfl ?_ ?_)|refine X3 (W7 rfl ?_ ?_)|refine X4 (W7 rfl ?_ ?_)|refine X5 (W7 rfl ?_ ?_))
   all_goals (try (conv => whnf))
   all_goals (try first|exact obA|refine Ob.mk ?_)
   repeat' ((conv => whnf);first|exact qR|intro _|refine WA ?_ ?_|refine WF ?_|refine W1 rfl ?_ ?_|refine W2 rfl ?_ ?_|refine W3 rfl ?_ ?_|refine W4 ?_ ?_|refine W5 rfl ?_ ?_|refine W6 ?_ ?_|refine WN ?_|refine X1 (W1 rfl ?_ ?_)|refine X1 (W2 rfl ?_ ?_)|refine X2 (W7 rfl ?_ ?_)|refine X3 (W7 rfl ?_ ?_)|refine X4 (W7 rfl ?_ ?_)|refine X5 (W7 rfl ?_ ?_))
   all_goals (try (conv => whnf))
   refine LoopStop.mk (α := Nat) (fun i => [(49,.int .i64 i)]) (fun i => [(3,.own .str (fin2 s sp i))]) 20 (fun i => i ≤ sp.length) (fun i => sp.length - i) 0 (by simp) ?_ (fun i hi => ?_)
   ·repeat' ((conv => whnf);first|exact qR|intro _|refine WA ?_ ?_|refine WF ?_|refine W1 rfl ?_ ?_|refine W2 rfl ?_ ?_|refine W3 rfl ?_ ?_|refine W4 ?_ ?_|refine W5 rfl ?_ ?_|refine W6 ?_ ?_|refine WN ?_|refine X1 (W1 rfl ?_ ?_)|refine X1 (W2 rfl ?_ ?_)|refine X2 (W7 rfl ?_ ?_)|refine X3 (W7 rfl ?_ ?_)|refine X4 (W7 rfl ?_ ?_)|refine X5 (W7 rfl ?_ ?_))
    all_goals (try (conv => whnf))
    all_goals (try rfl)
    all_goals trace_state
   ·repeat' ((conv => whnf);first|exact qR|intro _|refine WA ?_ ?_|refine WF ?_|refine W1 rfl ?_ ?_|refine W2 rfl ?_ ?_|refine W3 rfl ?_ ?_|refine W4 ?_ ?_|refine W5 rfl ?_ ?_|refine W6 ?_ ?_|refine WN ?_|refine X1 (W1 rfl ?_ ?_)|refine X1 (W2 rfl ?_ ?_)|refine X2 (W7 rfl ?_ ?_)|refine X3 (W7 rfl ?_ ?_)|refine X4 (W7 rfl ?_ ?_)|refine X5 (W7 rfl ?_ ?_))
    all_goals (try (conv => whnf))
    all_goals (try first|exact obA|refine Ob.mk ?_)
    all_goals (try simp only [ZA,ZB,ZC,ZD,ZE,ZF,ZG,ZH,ZI,ZJ,ZK,ZL,ZM,ZN,ZO,Int.toNat_natCast,UInt8.ofNat_toNat,cast_eq] at *)
    ·exact hh.2 _ (qHJ (by omega))
    ·rw [qDX s sp i hi];omega
    ·rw [qDX s sp i hi];omega
    ·skip
     have e := qJ4 s sp i (by omega)
     repeat' ((conv => whnf);first|exact qR|intro _|refine WA ?_ ?_|refine WF ?_|refine W1 rfl ?_ ?_|refine W2 rfl ?_ ?_|refine W3 rfl ?_ ?_|refine W4 ?_ ?_|refine W5 rfl ?_ ?_|refine W6 ?_ ?_|refine WN ?_|refine X1 (W1 rfl ?_ ?_)|refine X1 (W2 rfl ?_ ?_)|refine X2 (W7 rfl ?_ ?_)|refine X3 (W7 rfl ?_ ?_)|refine X4 (W7 rfl ?_ ?_)|refine X5 (W7 rfl ?_ ?_))
     all_goals (try (conv => whnf))
     all_goals (try first|exact obA|refine Ob.mk ?_)
     refine Rnd.mk ⟨i + 1,?_,?_,?_⟩
     ·omega
     ·omega
     ·repeat' ((conv => whnf);first|exact qR|intro _|refine WA ?_ ?_|refine WF ?_|refine W1 rfl ?_ ?_|refine W2 rfl ?_ ?_|refine W3 rfl ?_ ?_|refine W4 ?_ ?_|refine W5 rfl ?_ ?_|refine W6 ?_ ?_|refine WN ?_|refine X1 (W1 rfl ?_ ?_)|refine X1 (W2 rfl ?_ ?_)|refine X2 (W7 rfl ?_ ?_)|refine X3 (W7 rfl ?_ ?_)|refine X4 (W7 rfl ?_ ?_)|refine X5 (W7 rfl ?_ ?_))
      all_goals (try (conv => whnf))
      all_goals (try first|exact obA|refine Ob.mk ?_)
      all_goals (rw [← e];rfl)
    ·rw [qKH s sp i (by omega),hh.1]
  ·have hh := qYX ha ‹_› (by omega)
   have hlen : a.spans.length ≤ s.length + 1 := by omega
   revert hh hlen
   generalize a.spans = sp
   intro hh hlen
   repeat' ((conv => whnf);first|exact qR|intro _|refine WA ?_ ?_|refine WF ?_|refine W1 rfl ?_ ?_|refine W2 rfl ?_ ?_|refine W3 rfl ?_ ?_|refine W4 ?_ ?_|refine W5 rfl ?_ ?_|refine W6 ?_ ?_|refine WN ?_|refine X1 (W1 rfl ?_ ?_)|refine X1 (W2 rfl ?_ ?_)|refine X2 (W7 rfl ?_ ?_)|refine X3 (W7 rfl ?_ ?_)|refine X4 (W7 rfl ?_ ?_)|refine X5 (W7 rfl ?_ ?_))
   all_goals (try (conv => whnf))
   refine LoopStop.mk (α := Nat) (fun i => [(49,.int .i64 i)]) (fun i => [(2,.own .str (fin2 s sp i))]) 3 (fun i => i ≤ sp.length) (fun i => sp.length - i) 0 (by simp) ?_ (fun i hi => ?_)
   ·repeat' ((conv => whnf);first|exact qR|intro _|refine WA ?_ ?_|refine WF ?_|refine W1 rfl ?_ ?_|refine W2 rfl ?_ ?_|refine W3 rfl ?_ ?_|refine W4 ?_ ?_|refine W5 rfl ?_ ?_|refine W6 ?_ ?_|refine WN ?_|refine X1 (W1 rfl ?_ ?_)|refine X1 (W2 rfl ?_ ?_)|refine X2 (W7 rfl ?_ ?_)|refine X3 (W7 rfl ?_ ?_)|refine X4 (W7 rfl ?_ ?_)|refine X5 (W7 rfl ?_ ?_))
    all_goals (try (conv => whnf))
    all_goals (try rfl)
    all_goals trace_state
   ·repeat' ((conv => whnf);first|exact qR|intro _|refine WA ?_ ?_|refine WF ?_|refine W1 rfl ?_ ?_|refine W2 rfl ?_ ?_|refine W3 rfl ?_ ?_|refine W4 ?_ ?_|refine W5 rfl ?_ ?_|refine W6 ?_ ?_|refine WN ?_|refine X1 (W1 rfl ?_ ?_)|refine X1 (W2 rfl ?_ ?_)|refine X2 (W7 rfl ?_ ?_)|refine X3 (W7 rfl ?_ ?_)|refine X4 (W7 rfl ?_ ?_)|refine X5 (W7 rfl ?_ ?_))
    all_goals (try (conv => whnf))
    all_goals (try first|exact obA|refine Ob.mk ?_)
    all_goals (try simp only [ZA,ZB,ZC,ZD,ZE,ZF,ZG,ZH,ZI,ZJ,ZK,ZL,ZM,ZN,ZO,Int.toNat_natCast,UInt8.ofNat_toNat,cast_eq] at *)
    ·exact hh.2 _ (qHJ (by omega))
    ·rw [qDX s sp i hi];omega
    ·rw [qDX s sp i hi];omega
    ·skip
     have e := qJ4 s sp i (by omega)
     repeat' ((conv => whnf);first|exact qR|intro _|refine WA ?_ ?_|refine WF ?_|refine W1 rfl ?_ ?_|refine W2 rfl ?_ ?_|refine W3 rfl ?_ ?_|refine W4 ?_ ?_|refine W5 rfl ?_ ?_|refine W6 ?_ ?_|refine WN ?_|refine X1 (W1 rfl ?_ ?_)|refine X1 (W2 rfl ?_ ?_)|refine X2 (W7 rfl ?_ ?_)|refine X3 (W7 rfl ?_ ?_)|refine X4 (W7 rfl ?_ ?_)|refine X5 (W7 rfl ?_ ?_))
     all_goals (try (conv => whnf))
     all_goals (try first|exact obA|refine Ob.mk ?_)
     refine Rnd.mk ⟨i + 1,?_,?_,?_⟩
     ·omega
     ·omega
     ·repeat' ((conv => whnf);first|exact qR|intro _|refine WA ?_ ?_|refine WF ?_|refine W1 rfl ?_ ?_|refine W2 rfl ?_ ?_|refine W3 rfl ?_ ?_|refine W4 ?_ ?_|refine W5 rfl ?_ ?_|refine W6 ?_ ?_|refine WN ?_|refine X1 (W1 rfl ?_ ?_)|refine X1 (W2 rfl ?_ ?_)|refine X2 (W7 rfl ?_ ?_)|refine X3 (W7 rfl ?_ ?_)|refine X4 (W7 rfl ?_ ?_)|refine X5 (W7 rfl ?_ ?_))
      all_goals (try (conv => whnf))
      all_goals (try first|exact obA|refine Ob.mk ?_)
      all_goals (rw [← e];rfl)
    ·rw [qKH s sp i (by omega),hh.1]
end Go.Vc.W

/-
 DERIVED: THE SHELF's CONTRACTS AT THIS DUMP,IN PLAIN WORDS (tools/lay-plain.mjs out of 'TryzShelf.lean',which tools/lay-shelf.mjs wrote): THE SAME DECLARATIONS UNDER THE SAME NAMES: 'import', 'namespace', 'open', 'def', 'theorem' AND NOTHING ELSE: no command of the shelf's: FOR A HAND-IN. Each laying: the table of numbers ('.._ren') and one theorem,a field a fact of the dump's own or the kernel's comparison;each contract: ONE APPLICATION.
-/
namespace Go.Proofs
open Go.Shelf
def Tryz.lays156_ren : Go.Shelf.Ren := ⟨fun | 156 => 70 | 165 => 98 | 166 => 99 | 169 => 100 | 240 => 150 | 241 => 151 | 276 => 219 | 277 => 220 | n => n,fun | 31 => 48 | 9 => 9 | 3 => 3 | 4 => 4 | 0 => 0 | 20 => 20 | 72 => 130 | 76 => 134 | 70 => 127 | 37 => 128 | 75 => 133 | 127 => 165 | 164 => 198 | 5 => 5 | 80 => 136 | n => n,fun | n => n⟩
theorem Tryz.lays156 : Go.Proofs.Lays.n156 Tryz.prog Tryz.lays156_ren := {
  mixed := by kernel_rfl
  f156 := Tryz.func70.trans (congrArg some (by kernel_rfl))
  f165 := Tryz.func98.trans (congrArg some (by kernel_rfl))
  f166 := Tryz.func99.trans (congrArg some (by kernel_rfl))
  f169 := Tryz.func100.trans (congrArg some (by kernel_rfl))
  f240 := Tryz.func150.trans (congrArg some (by kernel_rfl))
  f241 := Tryz.func151.trans (congrArg some (by kernel_rfl))
  f276 := Tryz.func219.trans (congrArg some (by kernel_rfl))
  f277 := Tryz.func220.trans (congrArg some (by kernel_rfl))
  t0 := Tryz.underlying0
  a0 := Tryz.isAgg0
  z0 := Tryz.sizeOf0
  v0 := Tryz.zeroValue0
  t3 := Tryz.underlying3
  a3 := Tryz.isAgg3
  z3 := Tryz.sizeOf3
  v3 := Tryz.zeroValue3
  t4 := Tryz.underlying4
  a4 := Tryz.isAgg4
  z4 := Tryz.sizeOf4
  v4 := Tryz.zeroValue4
  t9 := Tryz.underlying9
  a9 := Tryz.isAgg9
  z9 := Tryz.sizeOf9
  v9 := Tryz.zeroValue9
  t20 := Tryz.underlying20
  a20 := Tryz.isAgg20
  z20 := Tryz.sizeOf20
  v20 := Tryz.zeroValue20
  t31 := Tryz.underlying48
  a31 := Tryz.isAgg48
  z31 := Tryz.sizeOf48
  v31 := Tryz.zeroValue48
  t37 := Tryz.underlying128
  a37 := Tryz.isAgg128
  z37 := Tryz.sizeOf128
  v37 := Tryz.zeroValue128
  t70 := Tryz.underlying127
  a70 := Tryz.isAgg127
  z70 := Tryz.sizeOf127
  v70 := Tryz.zeroValue127
  t72 := Tryz.underlying130
  a72 := Tryz.isAgg130
  z72 := Tryz.sizeOf130
  v72 := Tryz.zeroValue130
  t75 := Tryz.underlying133
  a75 := Tryz.isAgg133
  z75 := Tryz.sizeOf133
  v75 := Tryz.zeroValue133
  t76 := Tryz.underlying134
  a76 := Tryz.isAgg134
  z76 := Tryz.sizeOf134
  v76 := Tryz.zeroValue134
  t127 := Tryz.underlying165
  a127 := Tryz.isAgg165
  z127 := Tryz.sizeOf165
  v127 := Tryz.zeroValue165
  t164 := Tryz.underlying198
  a164 := Tryz.isAgg198
  z164 := Tryz.sizeOf198
  v164 := Tryz.zeroValue198 }
theorem Tryz.Builder_Extra_156 : Builder.Extra Tryz.prog Tryz.lays156_ren := {
  sizeBuilder := by kernel_rfl
  liesBuilder := by kernel_rfl
  t5 := Tryz.underlying5
  a5 := Tryz.isAgg5
  z5 := Tryz.sizeOf5
  v5 := Tryz.zeroValue5
  infoByte := by kernel_rfl
  cellsByte := by kernel_rfl
  sizeByte := by kernel_rfl
  neB5 := by decide }
open Go.RowKit in
theorem Tryz.strings_Join_none (a : Option Addr) (c : Nat) (sep : ByteArray) (w : World) :
  Calls Tryz.prog 70 #[.slice a 0 c,.string sep] w fun e w' => e = .returned (.string ⟨#[]⟩) ∧ w' = w := Any.strings_Join_none Tryz.lays156 Tryz.Builder_Extra_156 a c sep w
open Go.RowKit in
theorem Tryz.strings_Join (bk o c : Nat) (xs : List ByteArray) (sep : ByteArray) (w : World) (hcells : ∀ (j : Nat) x,xs[j]? = some x → w.cell? ⟨bk,o + j,none⟩ = some (.string x)) (hbk : bk < w.heap.size) (hN : xs.length ≤ 140737488355328) (hcap : xs.length ≤ c) (hlen : (Lib.join (xs.map (·.data.toList)) sep.data.toList).length ≤ 140737488355328) :
  Calls Tryz.prog 70 #[.slice (some ⟨bk,o,none⟩) xs.length c,.string sep] w fun e w' => e = .returned (.string ⟨(Lib.join (xs.map (·.data.toList)) sep.data.toList).toArray⟩) ∧ Below w.heap.size w w' := Any.strings_Join Tryz.lays156 Tryz.Builder_Extra_156 bk o c xs sep w hcells hbk hN hcap hlen
def Tryz.lays160_ren : Go.Shelf.Ren := ⟨fun | 160 => 14 | 232 => 30 | 231 => 29 | 227 => 31 | 234 => 33 | 233 => 32 | 236 => 35 | 235 => 34 | 228 => 53 | 271 => 56 | 151 => 55 | 197 => 54 | 120 => 77 | 152 => 76 | 260 => 75 | 137 => 102 | 119 => 103 | 224 => 104 | 225 => 105 | 217 => 153 | 266 => 221 | n => n,fun | 9 => 9 | 4 => 4 | 3 => 3 | 5 => 5 | 117 => 62 | 116 => 61 | 0 => 0 | 124 => 65 | 21 => 21 | 105 => 84 | 46 => 139 | 119 => 138 | 139 => 142 | 138 => 141 | n => n,fun | 3 => 0 | 4 => 1 | n => n⟩
theorem Tryz.lays160 : Go.Proofs.Lays.n160 Tryz.prog Tryz.lays160_ren := {
  mixed := by kernel_rfl
  f119 := Tryz.func103.trans (congrArg some (by kernel_rfl))
  f120 := Tryz.func77.trans (congrArg some (by kernel_rfl))
  f137 := Tryz.func102.trans (congrArg some (by kernel_rfl))
  f151 := Tryz.func55.trans (congrArg some (by kernel_rfl))
  f152 := Tryz.func76.trans (congrArg some (by kernel_rfl))
  f160 := Tryz.func14.trans (congrArg some (by kernel_rfl))
  f197 := Tryz.func54.trans (congrArg some (by kernel_rfl))
  f217 := Tryz.func153.trans (congrArg some (by kernel_rfl))
  f224 := Tryz.func104.trans (congrArg some (by kernel_rfl))
  f225 := Tryz.func105.trans (congrArg some (by kernel_rfl))
  f227 := Tryz.func31.trans (congrArg some (by kernel_rfl))
  f228 := Tryz.func53.trans (congrArg some (by kernel_rfl))
  f231 := Tryz.func29.trans (congrArg some (by kernel_rfl))
  f232 := Tryz.func30.trans (congrArg some (by kernel_rfl))
  f233 := Tryz.func32.trans (congrArg some (by kernel_rfl))
  f234 := Tryz.func33.trans (congrArg some (by kernel_rfl))
  f235 := Tryz.func34.trans (congrArg some (by kernel_rfl))
  f236 := Tryz.func35.trans (congrArg some (by kernel_rfl))
  f260 := Tryz.func75.trans (congrArg some (by kernel_rfl))
  f266 := Tryz.func221.trans (congrArg some (by kernel_rfl))
  f271 := Tryz.func56.trans (congrArg some (by kernel_rfl))
  t0 := Tryz.underlying0
  a0 := Tryz.isAgg0
  z0 := Tryz.sizeOf0
  v0 := Tryz.zeroValue0
  t3 := Tryz.underlying3
  a3 := Tryz.isAgg3
  z3 := Tryz.sizeOf3
  v3 := Tryz.zeroValue3
  t4 := Tryz.underlying4
  a4 := Tryz.isAgg4
  z4 := Tryz.sizeOf4
  v4 := Tryz.zeroValue4
  t5 := Tryz.underlying5
  a5 := Tryz.isAgg5
  z5 := Tryz.sizeOf5
  v5 := Tryz.zeroValue5
  t9 := Tryz.underlying9
  a9 := Tryz.isAgg9
  z9 := Tryz.sizeOf9
  v9 := Tryz.zeroValue9
  t21 := Tryz.underlying21
  a21 := Tryz.isAgg21
  z21 := Tryz.sizeOf21
  v21 := Tryz.zeroValue21
  t46 := Tryz.underlying139
  a46 := Tryz.isAgg139
  z46 := Tryz.sizeOf139
  v46 := Tryz.zeroValue139
  t105 := Tryz.underlying84
  a105 := Tryz.isAgg84
  z105 := Tryz.sizeOf84
  v105 := Tryz.zeroValue84
  t116 := Tryz.underlying61
  a116 := Tryz.isAgg61
  z116 := Tryz.sizeOf61
  t117 := Tryz.underlying62
  a117 := Tryz.isAgg62
  z117 := Tryz.sizeOf62
  v117 := Tryz.zeroValue62
  t119 := Tryz.underlying138
  a119 := Tryz.isAgg138
  z119 := Tryz.sizeOf138
  t124 := Tryz.underlying65
  a124 := Tryz.isAgg65
  z124 := Tryz.sizeOf65
  v124 := Tryz.zeroValue65
  t138 := Tryz.underlying141
  a138 := Tryz.isAgg141
  z138 := Tryz.sizeOf141
  v138 := Tryz.zeroValue141
  t139 := Tryz.underlying142
  a139 := Tryz.isAgg142
  z139 := Tryz.sizeOf142
  v139 := Tryz.zeroValue142
  g3 := by kernel_rfl
  g4 := by kernel_rfl }
def Tryz.lays219_ren : Go.Shelf.Ren := ⟨fun | 219 => 216 | 217 => 153 | 225 => 105 | 224 => 104 | 267 => 254 | 266 => 221 | 314 => 266 | n => n,fun | 9 => 9 | 3 => 3 | 4 => 4 | 5 => 5 | 46 => 139 | 146 => 221 | 51 => 220 | n => n,fun | 1 => 2 | n => n⟩
def Tryz.lays143_ren : Go.Shelf.Ren := ⟨fun | 143 => 147 | 219 => 216 | 217 => 153 | 225 => 105 | 224 => 104 | 267 => 254 | 266 => 221 | 314 => 266 | n => n,fun | 9 => 9 | 3 => 3 | 4 => 4 | 5 => 5 | 46 => 139 | 146 => 221 | 51 => 220 | n => n,fun | 1 => 2 | n => n⟩
theorem Tryz.lays143 : Go.Proofs.Lays.n143 Tryz.prog Tryz.lays143_ren := {
  mixed := by kernel_rfl
  f143 := Tryz.func147.trans (congrArg some (by kernel_rfl))
  f217 := Tryz.func153.trans (congrArg some (by kernel_rfl))
  f219 := Tryz.func216.trans (congrArg some (by kernel_rfl))
  f224 := Tryz.func104.trans (congrArg some (by kernel_rfl))
  f225 := Tryz.func105.trans (congrArg some (by kernel_rfl))
  f266 := Tryz.func221.trans (congrArg some (by kernel_rfl))
  f267 := Tryz.func254.trans (congrArg some (by kernel_rfl))
  f314 := Tryz.func266.trans (congrArg some (by kernel_rfl))
  t3 := Tryz.underlying3
  a3 := Tryz.isAgg3
  z3 := Tryz.sizeOf3
  v3 := Tryz.zeroValue3
  t4 := Tryz.underlying4
  a4 := Tryz.isAgg4
  z4 := Tryz.sizeOf4
  v4 := Tryz.zeroValue4
  t5 := Tryz.underlying5
  a5 := Tryz.isAgg5
  z5 := Tryz.sizeOf5
  v5 := Tryz.zeroValue5
  t9 := Tryz.underlying9
  a9 := Tryz.isAgg9
  z9 := Tryz.sizeOf9
  v9 := Tryz.zeroValue9
  t46 := Tryz.underlying139
  a46 := Tryz.isAgg139
  z46 := Tryz.sizeOf139
  v46 := Tryz.zeroValue139
  t51 := Tryz.underlying220
  a51 := Tryz.isAgg220
  z51 := Tryz.sizeOf220
  v51 := Tryz.zeroValue220
  t146 := Tryz.underlying221
  a146 := Tryz.isAgg221
  z146 := Tryz.sizeOf221
  v146 := Tryz.zeroValue221
  g1 := by kernel_rfl }
open Go.RowKit Go.Lib in
theorem Tryz.strings_Index (s sub : ByteArray) (m : Int) (w : World) (hs : s.size < 4294967281) (hm : w.cell? ⟨2,0,none⟩ = some (.int .i64 m)) :
  Calls Tryz.prog 147 #[.string s,.string sub] w fun e w' => e = .returned (.int .i64 (Lib.index s.data.toList sub.data.toList)) ∧ w' = w := Any.strings_Index Tryz.lays143 s sub m w hs hm
def Tryz.laysM143_ren : Go.Shelf.Ren := ⟨fun | 143 => 147 | 219 => 216 | 217 => 153 | 225 => 105 | 224 => 104 | 267 => 254 | 266 => 221 | 314 => 266 | n => n,fun | 9 => 9 | 3 => 3 | 4 => 4 | 5 => 5 | 46 => 139 | 146 => 221 | 51 => 220 | n => n,fun | 1 => 2 | n => n⟩
theorem Tryz.laysM143 : Go.Proofs.LaysM.n143 Tryz.prog Tryz.laysM143_ren := {
  mixed := by kernel_rfl
  f143 := Tryz.func147.trans (congrArg some (by kernel_rfl))
  f217 := Tryz.func153.trans (congrArg some (by kernel_rfl))
  f219 := Tryz.func216.trans (congrArg some (by kernel_rfl))
  f224 := Tryz.func104.trans (congrArg some (by kernel_rfl))
  f225 := Tryz.func105.trans (congrArg some (by kernel_rfl))
  f266 := Tryz.func221.trans (congrArg some (by kernel_rfl))
  f267 := Tryz.func254.trans (congrArg some (by kernel_rfl))
  f314 := Tryz.func266.trans (congrArg some (by kernel_rfl))
  t3 := Tryz.underlying3
  a3 := Tryz.isAgg3
  z3 := Tryz.sizeOf3
  v3 := Tryz.zeroValue3
  t4 := Tryz.underlying4
  a4 := Tryz.isAgg4
  z4 := Tryz.sizeOf4
  v4 := Tryz.zeroValue4
  t5 := Tryz.underlying5
  a5 := Tryz.isAgg5
  z5 := Tryz.sizeOf5
  v5 := Tryz.zeroValue5
  t9 := Tryz.underlying9
  a9 := Tryz.isAgg9
  z9 := Tryz.sizeOf9
  v9 := Tryz.zeroValue9
  t46 := Tryz.underlying139
  a46 := Tryz.isAgg139
  z46 := Tryz.sizeOf139
  v46 := Tryz.zeroValue139
  t51 := Tryz.underlying220
  a51 := Tryz.isAgg220
  z51 := Tryz.sizeOf220
  v51 := Tryz.zeroValue220
  t146 := Tryz.underlying221
  a146 := Tryz.isAgg221
  z146 := Tryz.sizeOf221
  v146 := Tryz.zeroValue221
  g1 := by kernel_rfl
  i3 := by kernel_rfl
  i4 := by kernel_rfl
  i5 := by kernel_rfl
  i9 := by kernel_rfl
  i46 := by kernel_rfl
  i51 := by kernel_rfl
  i146 := by kernel_rfl
  m1 := by kernel_rfl
  s1_3 := fun w h => Go.Proofs.cell_of_shapedOpen_int (zero := #[.int .i64 0]) (t := 3) h (of_decide_eq_true (by kernel_rfl)) (by kernel_rfl) rfl (by kernel_rfl) (by kernel_rfl) Tryz.underlying3 }
def Tryz.lays260_ren : Go.Shelf.Ren := ⟨fun | 260 => 75 | n => n,fun | 9 => 9 | 21 => 21 | 3 => 3 | 4 => 4 | 5 => 5 | 119 => 138 | 0 => 0 | 46 => 139 | 139 => 142 | 138 => 141 | n => n,fun | 3 => 0 | 4 => 1 | n => n⟩
theorem Tryz.lays260 : Go.Proofs.Lays.n260 Tryz.prog Tryz.lays260_ren := {
  mixed := by kernel_rfl
  f260 := Tryz.func75.trans (congrArg some (by kernel_rfl))
  t0 := Tryz.underlying0
  a0 := Tryz.isAgg0
  z0 := Tryz.sizeOf0
  v0 := Tryz.zeroValue0
  t3 := Tryz.underlying3
  a3 := Tryz.isAgg3
  z3 := Tryz.sizeOf3
  v3 := Tryz.zeroValue3
  t4 := Tryz.underlying4
  a4 := Tryz.isAgg4
  z4 := Tryz.sizeOf4
  v4 := Tryz.zeroValue4
  t5 := Tryz.underlying5
  a5 := Tryz.isAgg5
  z5 := Tryz.sizeOf5
  v5 := Tryz.zeroValue5
  t9 := Tryz.underlying9
  a9 := Tryz.isAgg9
  z9 := Tryz.sizeOf9
  v9 := Tryz.zeroValue9
  t21 := Tryz.underlying21
  a21 := Tryz.isAgg21
  z21 := Tryz.sizeOf21
  v21 := Tryz.zeroValue21
  t46 := Tryz.underlying139
  a46 := Tryz.isAgg139
  z46 := Tryz.sizeOf139
  v46 := Tryz.zeroValue139
  t119 := Tryz.underlying138
  a119 := Tryz.isAgg138
  z119 := Tryz.sizeOf138
  t138 := Tryz.underlying141
  a138 := Tryz.isAgg141
  z138 := Tryz.sizeOf141
  v138 := Tryz.zeroValue141
  t139 := Tryz.underlying142
  a139 := Tryz.isAgg142
  z139 := Tryz.sizeOf142
  v139 := Tryz.zeroValue142
  g3 := by kernel_rfl
  g4 := by kernel_rfl }
end Go.Proofs

namespace Go.Vc.W
open Go.Proofs
set_option maxRecDepth 10000
instance f33 (s : List UInt8) : Fn BB 68 [.str s] (s.length ≤ 100000) (.rd .str (spl s)) := by
 refine Fn.intro (N := 5) [0,2] [] Tryz.call68 Tryz.func68 rfl rfl (by kernel_rfl) (fun hpre => ?_)
 all_goals exact vcA
instance f30 (s t : List UInt8) : Fn BB 147 [.str s,.str t] (s.length ≤ 4294967280) (.int .i64 (Lib.index s t)) := by
 refine Fn.lift Tryz.call147 fun hp r β w vs hG m hl => ?_
 obtain ⟨rfl,h1,h2⟩ := hl.str2
 obtain ⟨mm,e1⟩ := hG.len
 exact ⟨_,Tryz.strings_Index ⟨s.toArray⟩ ⟨t.toArray⟩ mm w (by show s.toArray.size < _;simp;omega) (qKC m.vis e1),.int⟩
end Go.Vc.W

namespace Go.Vc.W
open Go.Proofs
set_option maxRecDepth 10000
def qi6 (s w : List UInt8) (j : Nat) : Prop := Lib.occAt s w j = true ∧ (j = 0 ∨ isSp (s.getD (j-1) 0).toNat = true) ∧ (j + w.length = s.length ∨ isSp (s.getD (j + w.length) 0).toNat = true)
def NoB (s w : List UInt8) (a : Nat) : Prop := ∀ j,j < a → ¬ qi6 s w j
theorem qaF (s : List UInt8) (j i : Nat) (h : j ≤ i) (h2 : i ≤ s.length) : Lib.occAt s (cut s (j,i)) j = true := by
 unfold Lib.occAt cut
 rw [List.isPrefixOf_iff_prefix]
 simp only [Int.toNat_natCast]
 rw [List.drop_take]
 exact List.take_prefix _ _
theorem qZU (s : List UInt8) (j i : Nat) (h : j ≤ i) (h2 : i ≤ s.length) : (cut s (j,i)).length = i - j := by
 simp [cut];omega
theorem qWG (s : List UInt8) (i : Nat) (h : i ≤ s.length) :
  (∀ x ∈ (qEH s i).1,¬ x = [] ∧ ∃ j,qi6 s x j) ∧ ∃ j,j ≤ i ∧ (qEH s i).2 = cut s ((j:Nat),(i:Nat)) ∧ (j = 0 ∨ isSp (s.getD (j-1) 0).toNat = true) := by
 induction i with
 | zero => exact ⟨by simp [qEH],0,by simp,by simp [qEH,cut],Or.inl rfl⟩
 | succ i ih =>
  obtain ⟨ih1,j,hj,e,hb⟩ := ih (by omega)
  have es := qCG s i (by omega)
  cases hc : isSp (s.getD i 0).toNat with
  | false =>
   rw [qFD hc] at es
   rw [es]
   exact ⟨ih1,j,by omega,by rw [qKI s j i hj (by omega), ← e],hb⟩
  | true =>
   by_cases h2 : (qEH s i).2 = []
   ·rw [qHD hc h2] at es
    rw [es]
    exact ⟨ih1,i + 1,by omega,by simp [cut],Or.inr (by simpa using hc)⟩
   ·rw [qEJ hc h2] at es
    rw [es]
    refine ⟨fun x hx => ?_,i + 1,by omega,by simp [cut],Or.inr (by simpa using hc)⟩
    rcases List.mem_append.mp hx with hx | hx
    ·exact ih1 x hx
    ·simp only [List.mem_singleton] at hx
     subst hx
     refine ⟨h2,j,?_⟩
     rw [e]
     refine ⟨qaF s j i hj (by omega),hb,Or.inr ?_⟩
     rw [qZU s j i hj (by omega)]
     have : j + (i - j) = i := by omega
     rw [this];exact hc
theorem qPO (s x : List UInt8) (h : (spl s).contains x = true) : ¬ x = [] ∧ ∃ j,qi6 s x j := by
 have hx : x ∈ spl s := by simpa using h
 obtain ⟨h1,j,hj,e,hb⟩ := qWG s s.length (Nat.le_refl _)
 by_cases h2 : (qEH s s.length).2 = []
 ·rw [qb6 (Nat.le_refl _) h2] at hx;exact h1 x hx
 ·rw [qbV (Nat.le_refl _) h2] at hx
  rcases List.mem_append.mp hx with hx | hx
  ·exact h1 x hx
  ·simp only [List.mem_singleton] at hx
   subst hx
   refine ⟨h2,j,?_⟩
   rw [e]
   refine ⟨qaF s j _ hj (Nat.le_refl _),hb,Or.inl ?_⟩
   rw [qZU s j _ hj (Nat.le_refl _)];omega
theorem qa5 (s x : List UInt8) (h : x = []) : (spl s).contains x = false := by
 cases e : (spl s).contains x with
 | false => rfl
 | true => exact absurd h (qPO s x e).1
theorem qfT (s x : List UInt8) (n : Nat) (hn : s.length ≤ n) (h0 : ¬ x = []) (h : NoB s x n) : (spl s).contains x = false := by
 cases e : (spl s).contains x with
 | false => rfl
 | true =>
  obtain ⟨j,hj⟩ := (qPO s x e).2
  rcases Lib.occAt_room hj.1 with k | k
  ·have : 0 < x.length := List.length_pos_iff.mpr h0
   exact absurd hj (h j (by omega))
  ·exact absurd k h0
theorem least (f : Nat → Bool) (n : Nat) (h : f n = true) : ∃ m,f m = true ∧ ∀ j,j < m → f j = false := by
 induction n using Nat.strongRecOn with
 | _ n ih =>
  by_cases hh : ∃ j,j < n ∧ f j = true
  ·obtain ⟨j,h1,h2⟩ := hh
   exact ih j h1 h2
  ·refine ⟨n,h,fun j hj => ?_⟩
   cases e : f j with
   | false => rfl
   | true => exact absurd ⟨j,hj,e⟩ hh
theorem ixs (s w : List UInt8) (i : Nat) (hi : i ≤ s.length) (h0 : ¬ w = []) :
  (Lib.index (s.drop i) w = -1 ∧ ∀ j,i ≤ j → Lib.occAt s w j = false) ∨
  ∃ p : Nat,Lib.index (s.drop i) w = p ∧ i + p + w.length ≤ s.length ∧ Lib.occAt s w (i + p) = true ∧ ∀ j,i ≤ j → j < i + p → Lib.occAt s w j = false := by
 have sh : ∀ q,Lib.occAt (s.drop i) w q = Lib.occAt s w (i + q) := fun q => by simp [Lib.occAt,List.drop_drop]
 by_cases hh : ∃ q,Lib.occAt (s.drop i) w q = true
 ·right
  obtain ⟨q,hq⟩ := hh
  obtain ⟨p,hd,hm⟩ := least _ q hq
  refine ⟨p,?_⟩
  have hr : i + p + w.length ≤ s.length := by
   rcases Lib.occAt_room hd with k | k
   ·have : 0 < w.length := List.length_pos_iff.mpr h0
    simp at k;omega
   ·exact absurd k h0
  refine ⟨Lib.index_first (by simp;omega) hd hm,hr,by rw [← sh];exact hd,fun j h1 h2 => ?_⟩
  have := hm (j - i) (by omega)
  rw [sh] at this
  have e : i + (j - i) = j := by omega
  rwa [e] at this
 ·left
  have hm : ∀ q,Lib.occAt (s.drop i) w q = false := fun q => by
   cases e : Lib.occAt (s.drop i) w q with
   | false => rfl
   | true => exact absurd ⟨q,e⟩ hh
  refine ⟨Lib.index_none fun j _ => hm j,fun j h1 => ?_⟩
  have := hm (j - i)
  rw [sh] at this
  have e : i + (j - i) = j := by omega
  rwa [e] at this
end Go.Vc.W

namespace Go.Vc.W
open Go.Proofs
set_option maxRecDepth 10000
theorem qdI (l : List (List UInt8)) (w : List UInt8) : decide (qQX l w ≥ 0) = l.contains w := by
 unfold qQX
 cases h : l.contains w <;> simp
theorem qcJ {s w : List UInt8} {i p : Nat} (h : NoB s w i) (hp : ∀ j,i ≤ j → j < i + p → Lib.occAt s w j = false) (hb : ¬ qi6 s w (i + p)) : NoB s w (i + p + 1) := by
 intro j hj
 by_cases h1 : j < i
 ·exact h j h1
 ·by_cases h2 : j < i + p
  ·intro e;have := hp j (by omega) h2;rw [e.1] at this;cases this
  ·have : j = i + p := by omega
   subst this;exact hb
theorem qgD {s w : List UInt8} {i : Nat} (h : NoB s w i) (hp : ∀ j,i ≤ j → Lib.occAt s w j = false) (n : Nat) : NoB s w n := by
 intro j hj
 by_cases h1 : j < i
 ·exact h j h1
 ·intro e;have := hp j (by omega);rw [e.1] at this;cases this
instance f26 (s w : List UInt8) : Fn BB 93 [.str s,.str w] (s.length ≤ 100000 ∧ w.length ≤ 100000) (.bool ((spl s).contains w)) := by
  refine Fn.intro (N := 52) [0,1,4,5,6,7,8,10,17,45] [] Tryz.call93 Tryz.func93 rfl rfl (by kernel_rfl) (fun hpre => ?_)
  repeat' ((conv => whnf);first|exact qR|intro _|refine WA ?_ ?_|refine WF ?_|refine W1 rfl ?_ ?_|refine W2 rfl ?_ ?_|refine W3 rfl ?_ ?_|refine W4 ?_ ?_|refine W5 rfl ?_ ?_|refine W6 ?_ ?_|refine WN ?_|refine X1 (W1 rfl ?_ ?_)|refine X1 (W2 rfl ?_ ?_)|refine X2 (W7 rfl ?_ ?_)|refine X3 (W7 rfl ?_ ?_)|refine X4 (W7 rfl ?_ ?_)|refine X5 (W7 rfl ?_ ?_))
  all_goals (try (conv => whnf))
  all_goals (try first|exact obA|refine Ob.mk ?_)
  · rw [qa5 s w (by simpa using ‹(w == []) = true›)]
  · have h0 : ¬ w = [] := by simpa using ‹(w == []) = false›
    refine LoopStop.mk (α := Nat) (fun i => [(5,.int .i64 i)]) (fun i => []) 0 (fun i => i ≤ s.length ∧ NoB s w i) (fun i => s.length + 1 - i) 0 ⟨by omega,fun j hj => absurd hj (by omega)⟩ ?_ (fun i hi => ?_)
    · repeat' ((conv => whnf);first|exact qR|intro _|refine WA ?_ ?_|refine WF ?_|refine W1 rfl ?_ ?_|refine W2 rfl ?_ ?_|refine W3 rfl ?_ ?_|refine W4 ?_ ?_|refine W5 rfl ?_ ?_|refine W6 ?_ ?_|refine WN ?_|refine X1 (W1 rfl ?_ ?_)|refine X1 (W2 rfl ?_ ?_)|refine X2 (W7 rfl ?_ ?_)|refine X3 (W7 rfl ?_ ?_)|refine X4 (W7 rfl ?_ ?_)|refine X5 (W7 rfl ?_ ?_))
      all_goals (try (conv => whnf))
      all_goals (try rfl)
    · have hx := ixs s w i hi.1 h0
      have hl0 : 0 < w.length := List.length_pos_iff.mpr h0
      repeat' ((conv => whnf);first|exact qR|intro _|refine WA ?_ ?_|refine WF ?_|refine W1 rfl ?_ ?_|refine W2 rfl ?_ ?_|refine W3 rfl ?_ ?_|refine W4 ?_ ?_|refine W5 rfl ?_ ?_|refine W6 ?_ ?_|refine WN ?_|refine X1 (W1 rfl ?_ ?_)|refine X1 (W2 rfl ?_ ?_)|refine X2 (W7 rfl ?_ ?_)|refine X3 (W7 rfl ?_ ?_)|refine X4 (W7 rfl ?_ ?_)|refine X5 (W7 rfl ?_ ?_))
      all_goals (try (conv => whnf))
      all_goals (try simp only [ZA,ZB,ZC,ZD,ZE,ZF,ZG,ZH,ZI,ZJ,ZK,ZL,ZM,ZN,ZO,Int.toNat_natCast,UInt8.ofNat_toNat,cast_eq] at *)
      all_goals (rcases hx with ⟨hx,hx2⟩ | ⟨p,hx,hx1,hx2,hx3⟩)
      all_goals (try (exfalso;omega))
      all_goals (try first|exact obA|refine Ob.mk ?_)
      · rw [qfT s w s.length (Nat.le_refl _) h0 (qgD hi.2 hx2 _)]
      · rw [qdI]
      · have hb : ¬ qi6 s w (i + p) := by
          rintro ⟨b1,b2,b3⟩
          have e1 : ((i:Int) + (p:Int) - 1).toNat = i + p - 1 := by omega
          have e2 : ((i:Int) + (p:Int) + (w.length:Int)).toNat = i + p + w.length := by omega
          rename_i hc _ _
          rw [hx,e1,e2] at hc
          simp only [Bool.and_eq_false_iff,Bool.or_eq_false_iff,beq_eq_false_iff_ne] at hc
          rcases hc with ⟨c1,c2⟩ | ⟨c1,c2⟩
          · rcases b2 with b2 | b2
            · omega
            · rw [b2] at c2;cases c2
          · rcases b3 with b3 | b3
            · omega
            · rw [b3] at c2;cases c2
        refine Rnd.mk ⟨i + p + 1,?_,?_,?_⟩
        · exact ⟨by omega,qcJ hi.2 hx3 hb⟩
        · omega
        · all_goals exact vcA
end Go.Vc.W

namespace Go.Vc
open Go.Proofs
open Go.Vc.W
set_option maxRecDepth 10000
set_option maxHeartbeats 4000000
theorem qcR {α : Type} {κ : KTy} {k : κ.T} {v : α} : ∀ {l : List (κ.T × α)},qE8 κ l k = some v → (k,v) ∈ l := by
 intro l
 induction l with
 | nil => intro h;cases h
 | cons x r ih =>
  intro h
  obtain ⟨k',v'⟩ := x
  unfold qE8 at h
  cases hb : κ.beq k k' with
  | true =>
   rw [hb] at h
   cases h
   rw [(qKE k k').1 hb]
   exact List.mem_cons_self
  | false =>
   rw [hb] at h
   exact List.mem_cons_of_mem _ (ih h)
theorem qY5 {α : Type} {κ : KTy} {k : κ.T} : ∀ {l : List (κ.T × α)},(∀ p ∈ l,p.1 ≠ k) → qE8 κ l k = none := by
 intro l
 induction l with
 | nil => intro h;rfl
 | cons x r ih =>
  intro h
  obtain ⟨k',v'⟩ := x
  unfold qE8
  cases hb : κ.beq k k' with
  | true => exact absurd ((qKE k k').1 hb).symm (h _ List.mem_cons_self)
  | false => exact ih fun p hp => h p (List.mem_cons_of_mem _ hp)
theorem qgE {nm o : List UInt8} (h : qE8 .w qXH nm = some o) : o.length ≤ 1000 := by
 have key : ∀ p ∈ qXH,p.2.length ≤ 1000 := by decide
 exact key _ (qcR h)
instance kOwn : FnM BB 92 [] [] True (.mref 0) [(0,.mp .w .str qXH)] := by
 refine FnM.intro (N := 12) [0] [] 0 Tryz.call92 Tryz.func92 rfl rfl (by kernel_rfl) (fun hpre => ?_)
 repeat' ((conv => whnf);first|exact qR|intro _|refine WA ?_ ?_|refine WF ?_|refine W1 rfl ?_ ?_|refine W2 rfl ?_ ?_|refine W3 rfl ?_ ?_|refine W4 ?_ ?_|refine W5 rfl ?_ ?_|refine W6 ?_ ?_|refine WN ?_|refine X1 (W1 rfl ?_ ?_)|refine X1 (W2 rfl ?_ ?_)|refine X2 (W7 rfl ?_ ?_)|refine X3 (W7 rfl ?_ ?_)|refine X4 (W7 rfl ?_ ?_)|refine X5 (W7 rfl ?_ ?_))
 all_goals (try (conv => whnf))
 all_goals (try first|exact obA|refine Ob.mk ?_)
 exact congrArg (Chunk.mp KTy.w Ty.str) (by kernel_rfl)
def qPB (s : Int) (nn nm : List UInt8) : Bool := if nm = vbT ∨ nm = qkB then s == 1 else if nm = qnI then s == 2 && nn == axT else true
def qGD (k s : Int) (nn nm : List UInt8) : Bool :=
 k == 1 && match qE8 (α := List UInt8) .w qXH nm with
 | some o => s == 0 && (spl o).contains nn
 | none => qPB s nn nm
theorem qVP {k s : Int} {nn nm : List UInt8} (h : ¬ k = 1) : qGD k s nn nm = false := by rw [qGD,beq_eq_false_iff_ne.mpr h];rfl
theorem qXQ {s : Int} {nn nm o : List UInt8} (h : qE8 .w qXH nm = some o) : qGD 1 s nn nm = (s == 0 && (spl o).contains nn) := by
 rw [qGD,h];rfl
theorem qeR {s : Int} {nn nm : List UInt8} (h : qE8 (α := List UInt8) .w qXH nm = none) : qGD 1 s nn nm = qPB s nn nm := by
 rw [qGD,h];rfl
theorem qZ1 {s : Int} {nn nm : List UInt8} (h : nm = vbT ∨ nm = qkB) : qPB s nn nm = (s == 1) := by rw [qPB,if_pos h]
theorem qe1 {s : Int} {nn : List UInt8} : qPB s nn qnI = (s == 2 && nn == axT) := by
 rw [qPB,if_neg (by decide),if_pos rfl]
theorem qeH {s : Int} {nn nm : List UInt8} (h1 : ¬ nm = vbT) (h2 : ¬ nm = qkB) (h3 : ¬ nm = qnI) : qPB s nn nm = true := by
 rw [qPB,if_neg (by rintro (h | h) <;> contradiction),if_neg h3]
instance kFits (k s : Int) (nn : List UInt8) (at_ : List qAJ.T) (dt : List UInt8) (up : Int) (kids : List Int) (nm : List UInt8) :
  Fn BB 67 [.agg [.int .i64 k,.int .i64 s,.str nn,.rd qAJ at_,.str dt,.int .i64 up,.rd qAI kids],.str nm] (nn.length ≤ 1000) (.bool (qGD k s nn nm)) := by
 refine Fn.intro (N := 44) [0,1,2,4,5,6,9,16,27,28,34] [] Tryz.call67 Tryz.func67 rfl rfl (by kernel_rfl) (fun hpre => ?_)
 repeat' ((conv => whnf);first|exact qR|intro _|refine WA ?_ ?_|refine WF ?_|refine W1 rfl ?_ ?_|refine W2 rfl ?_ ?_|refine W3 rfl ?_ ?_|refine W4 ?_ ?_|refine W5 rfl ?_ ?_|refine W6 ?_ ?_|refine WN ?_|refine X1 (W1 rfl ?_ ?_)|refine X1 (W2 rfl ?_ ?_)|refine X2 (W7 rfl ?_ ?_)|refine X3 (W7 rfl ?_ ?_)|refine X4 (W7 rfl ?_ ?_)|refine X5 (W7 rfl ?_ ?_))
 all_goals (try (conv => whnf))
 all_goals (try first|exact obA|refine Ob.mk ?_)
 all_goals (try simp only [ZA,ZB,ZC,ZD,ZE,ZF,ZG,ZH,ZI,ZJ,ZK,ZL,ZM,ZN,ZO,Bool.and_eq_false_iff,Bool.or_eq_false_iff,ge_iff_le,gt_iff_lt,Int.toNat_natCast,UInt8.ofNat_toNat,cast_eq] at *)
 all_goals (try contradiction)
 all_goals (try (rw [qVP ‹_›];done))
 all_goals (have hk : k = 1 := ‹_›;subst hk)
 ·obtain ⟨o,ho⟩ := Option.isSome_iff_exists.1 ‹_›
  rw [ho]
  have := qgE ho
  exact ⟨by show o.length ≤ _;omega,by omega⟩
 ·obtain ⟨o,ho⟩ := Option.isSome_iff_exists.1 ‹_›
  rw [qXQ ho,ho];rfl
 all_goals (have hn : qE8 (α := List UInt8) .w qXH nm = none := Option.isSome_eq_false_iff.1 ‹_› |> Option.isNone_iff_eq_none.1)
 all_goals rw [qeR hn]
 ·subst ‹nm = _›;exact (qZ1 (nm := vbT) (.inl rfl)).symm
 ·subst ‹nm = _›;exact (qZ1 (nm := qkB) (.inr rfl)).symm
 ·subst ‹nm = _›;exact qe1.symm
 ·exact (qeH ‹_› ‹_› ‹_›).symm
theorem qXR : ∀ i < 9,∃ o,qE8 .w qXH (rnT.getD i []) = some o ∧ (spl (reT.getD i [])).isPerm (spl o) = true ∧ (reT.getD i []).length ≤ 1000 := by
 intro i hi
 match i,hi with
 | 0,_ => exact ⟨_,rfl,by decide +kernel,by decide⟩
 | 1,_ => exact ⟨_,rfl,by decide +kernel,by decide⟩
 | 2,_ => exact ⟨_,rfl,by decide +kernel,by decide⟩
 | 3,_ => exact ⟨_,rfl,by decide +kernel,by decide⟩
 | 4,_ => exact ⟨_,rfl,by decide +kernel,by decide⟩
 | 5,_ => exact ⟨_,rfl,by decide +kernel,by decide⟩
 | 6,_ => exact ⟨_,rfl,by decide +kernel,by decide⟩
 | 7,_ => exact ⟨_,rfl,by decide +kernel,by decide⟩
 | 8,_ => exact ⟨_,rfl,by decide +kernel,by decide⟩
 | n + 9,h => omega
theorem qb9 {nm : List UInt8} (h : ∀ i < 9,rnT.getD i [] ≠ nm) : qE8 (α := List UInt8) .w qXH nm = none := by
 refine qY5 fun p hp e => ?_
 have key : ∀ p ∈ qXH,∃ i,i < 9 ∧ rnT.getD i [] = p.1 := by
  have : ∀ p ∈ qXH,(List.range 9).any (fun i => rnT.getD i [] == p.1) = true := by decide +kernel
  intro p hp
  obtain ⟨i,hi,hh⟩ := List.any_eq_true.1 (this p hp)
  exact ⟨i,List.mem_range.1 hi,by simpa using hh⟩
 obtain ⟨i,hi,hh⟩ := key p hp
 exact h i hi (hh.trans e)
theorem qdG {a b : List (List UInt8)} (h : a.isPerm b = true) (w : List UInt8) : a.contains w = b.contains w := by
 rw [Bool.eq_iff_iff,List.contains_iff_mem,List.contains_iff_mem]
 exact (List.isPerm_iff.1 h).mem_iff
instance kRFits (k s : Int) (nn : List UInt8) (at_ : List qAJ.T) (dt : List UInt8) (up : Int) (kids : List Int) (nm : List UInt8) :
  Fn BB 45 [.agg [.int .i64 k,.int .i64 s,.str nn,.rd qAJ at_,.str dt,.int .i64 up,.rd qAI kids],.str nm] (nn.length ≤ 1000) (.bool (qGD k s nn nm)) := by
 refine Fn.intro (N := 58) [0,1,2,4,5,6,7,12,16,24,42] [(9,[0,1,1,1,1,1,1,1,1,1,3,3,3])] Tryz.call45 Tryz.func45 rfl rfl (by kernel_rfl) (fun hpre => ?_)
 repeat' ((conv => whnf);first|exact qR|intro _|refine WA ?_ ?_|refine WF ?_|refine W1 rfl ?_ ?_|refine W2 rfl ?_ ?_|refine W3 rfl ?_ ?_|refine W4 ?_ ?_|refine W5 rfl ?_ ?_|refine W6 ?_ ?_|refine WN ?_|refine X1 (W1 rfl ?_ ?_)|refine X1 (W2 rfl ?_ ?_)|refine X2 (W7 rfl ?_ ?_)|refine X3 (W7 rfl ?_ ?_)|refine X4 (W7 rfl ?_ ?_)|refine X5 (W7 rfl ?_ ?_))
 all_goals (try (conv => whnf))
 all_goals (try first|exact obA|refine Ob.mk ?_)
 all_goals (try simp only [ZA,ZB,ZC,ZD,ZE,ZF,ZG,ZH,ZI,ZJ,ZK,ZL,ZM,ZN,ZO,Bool.and_eq_false_iff,Bool.or_eq_false_iff,ge_iff_le,gt_iff_lt,Int.toNat_natCast,UInt8.ofNat_toNat,cast_eq] at *)
 all_goals (try contradiction)
 all_goals (try (rw [qVP ‹_›];done))
 all_goals (have hk : k = 1 := ‹_›;subst hk)
 ·refine LoopStop.mk (α := Nat) (fun i => [(7,.int .i64 i)]) (fun _ => []) 20 (fun i => i ≤ 9 ∧ ∀ j < i,rnT.getD j [] ≠ nm) (fun i => 9 - i) 0 ⟨by omega,fun j hj => absurd hj (Nat.not_lt_zero _)⟩ ?_ (fun i hi => ?_)
  ·all_goals exact vcA
  ·obtain ⟨hi,ha⟩ := hi
   repeat' ((conv => whnf);first|exact qR|intro _|refine WA ?_ ?_|refine WF ?_|refine W1 rfl ?_ ?_|refine W2 rfl ?_ ?_|refine W3 rfl ?_ ?_|refine W4 ?_ ?_|refine W5 rfl ?_ ?_|refine W6 ?_ ?_|refine WN ?_|refine X1 (W1 rfl ?_ ?_)|refine X1 (W2 rfl ?_ ?_)|refine X2 (W7 rfl ?_ ?_)|refine X3 (W7 rfl ?_ ?_)|refine X4 (W7 rfl ?_ ?_)|refine X5 (W7 rfl ?_ ?_))
   all_goals (try (conv => whnf))
   all_goals (try first|exact obA|refine Ob.mk ?_)
   all_goals (try simp only [ZA,ZB,ZC,ZD,ZE,ZF,ZG,ZH,ZI,ZJ,ZK,ZL,ZM,ZN,ZO,Bool.and_eq_false_iff,Bool.or_eq_false_iff,ge_iff_le,gt_iff_lt,Int.toNat_natCast,UInt8.ofNat_toNat,cast_eq] at *)
   all_goals (try (have q9 : (i : Int) < 9 := by assumption))
   all_goals (try (have q9 : ¬ (i : Int) < 9 := by assumption))
   all_goals (try (have q8 : rnT.getD i [] = nm := by assumption))
   all_goals (try (have q8 : ¬ rnT.getD i [] = nm := by assumption))
   ·exact ⟨by omega,by show (i : Int) < 9;exact q9⟩
   ·show i < 9;omega
   ·obtain ⟨o,h1,h2,h3⟩ := qXR i (by omega)
    have h3 : (reT.getD i []).length ≤ 1000 := h3
    show (reT.getD i []).length ≤ 100000
    omega
   ·obtain ⟨o,h1,h2,h3⟩ := qXR i (by omega)
    rw [q8] at h1
    rw [qXQ h1, ← qdG h2 nn];rfl
   ·refine Rnd.mk ⟨i + 1,⟨by omega,fun j hj => ?_⟩,by omega,?_⟩
    ·rcases Nat.lt_or_ge j i with q | q
     ·exact ha j q
     ·obtain rfl : j = i := by omega
      exact q8
    ·all_goals exact vcA
   all_goals (have hge : (9 : Int) ≤ (i : Int) := by assumption)
   all_goals (have hn : qE8 (α := List UInt8) .w qXH nm = none := qb9 fun j hj => ha j (by omega))
   all_goals rw [qeR hn]
   ·exact (qZ1 (nm := nm) ‹_›).symm
   ·obtain ⟨r1,r2⟩ : ¬ nm = vbT ∧ ¬ nm = qkB := ‹_›
    by_cases r3 : nm = qnI
    ·rw [r3,qe1];rfl
    ·rw [qeH r1 r2 r3,show (nm == [101,110,99,111,100,105,110,103]) = false from beq_eq_false_iff_ne.mpr r3];rfl
end Go.Vc

namespace Go.Vc
open Go.Proofs
set_option maxRecDepth 10000
abbrev qAG := qAB.T
abbrev qAG.up (n : qAG) : Int := n.2.2.2.2.2.1
abbrev qAG.kids (n : qAG) : List Int := n.2.2.2.2.2.2
def isT (l : List qAG) (i : Int) : Bool := decide (0 ≤ i) && decide (i < l.length)
end Go.Vc

namespace Go.Vc
open Go.Proofs
set_option maxRecDepth 10000
theorem take_snoc {α : Type} (l : List α) (i : Nat) (d : α) (h : i < l.length) : l.take (i + 1) = l.take i ++ [l.getD i d] := by
 rw [List.take_succ_eq_append_getElem h];simp [List.getD,List.getElem?_eq_getElem h]
theorem qF1 {α : Type} (p : α → Bool) (l : List α) (i : Nat) (d : α) (h : i < l.length) : (l.take (i + 1)).all p = ((l.take i).all p && p (l.getD i d)) := by
 rw [take_snoc l i d h];simp
theorem qD1 {α : Type} {p : α → Bool} {l : List α} {i : Nat} {d : α} (h : i < l.length) (hp : p (l.getD i d) = false) : l.all p = false := by
 rw [List.all_eq_false]
 refine ⟨l.getD i d,?_,by rw [hp];simp⟩
 simp [List.getD,List.getElem?_eq_getElem h]
abbrev qAK := qAJ.T
def qE1 (l : List qAK) : Bool := decide (l.length ≤ 14) && l.all fun a => decide (a.1.length ≤ 40) && decide (a.2.length ≤ 150)
instance f33 (l : List qAK) : Fn BB 51 [.rd qAJ l] True (.bool (qE1 l)) := by
 refine Fn.intro (N := 25) [0,2,4,7,8,9,10,11,23] [] Tryz.call51 Tryz.func51 rfl rfl (by kernel_rfl) (fun hpre => ?_)
 repeat' ((conv => whnf);first|exact qR|intro _|refine WA ?_ ?_|refine WF ?_|refine W1 rfl ?_ ?_|refine W2 rfl ?_ ?_|refine W3 rfl ?_ ?_|refine W4 ?_ ?_|refine W5 rfl ?_ ?_|refine W6 ?_ ?_|refine WN ?_|refine X1 (W1 rfl ?_ ?_)|refine X1 (W2 rfl ?_ ?_)|refine X2 (W7 rfl ?_ ?_)|refine X3 (W7 rfl ?_ ?_)|refine X4 (W7 rfl ?_ ?_)|refine X5 (W7 rfl ?_ ?_))
 all_goals (try (conv => whnf))
 ·simp only [qE1,decide_eq_true_eq] at *
  rw [decide_eq_false (by omega)];rfl
 ·refine LoopStop.mk (α := Nat) (fun i => [(10,.int .i64 i)]) (fun _ => []) 0 (fun i => i ≤ l.length ∧ (l.take i).all (fun a => decide (a.1.length ≤ 40) && decide (a.2.length ≤ 150)) = true) (fun i => l.length - i) 0 (by simp) ?_ (fun i hi => ?_)
  ·repeat' ((conv => whnf);first|exact qR|intro _|refine WA ?_ ?_|refine WF ?_|refine W1 rfl ?_ ?_|refine W2 rfl ?_ ?_|refine W3 rfl ?_ ?_|refine W4 ?_ ?_|refine W5 rfl ?_ ?_|refine W6 ?_ ?_|refine WN ?_|refine X1 (W1 rfl ?_ ?_)|refine X1 (W2 rfl ?_ ?_)|refine X2 (W7 rfl ?_ ?_)|refine X3 (W7 rfl ?_ ?_)|refine X4 (W7 rfl ?_ ?_)|refine X5 (W7 rfl ?_ ?_))
   all_goals (try (conv => whnf))
   all_goals (try rfl)
  ·obtain ⟨hi,ha⟩ := hi
   repeat' ((conv => whnf);first|exact qR|intro _|refine WA ?_ ?_|refine WF ?_|refine W1 rfl ?_ ?_|refine W2 rfl ?_ ?_|refine W3 rfl ?_ ?_|refine W4 ?_ ?_|refine W5 rfl ?_ ?_|refine W6 ?_ ?_|refine WN ?_|refine X1 (W1 rfl ?_ ?_)|refine X1 (W2 rfl ?_ ?_)|refine X2 (W7 rfl ?_ ?_)|refine X3 (W7 rfl ?_ ?_)|refine X4 (W7 rfl ?_ ?_)|refine X5 (W7 rfl ?_ ?_))
   all_goals (try (conv => whnf))
   all_goals (try first|exact obA|refine Ob.mk ?_)
   all_goals (try simp only [ZA,ZB,ZC,ZD,ZE,ZF,ZG,ZH,ZI,ZJ,ZK,ZL,ZM,ZN,ZO,Int.toNat_natCast,UInt8.ofNat_toNat,cast_eq] at *)
   ·have h : i < l.length := by omega
    rw [qE1,qD1 h (d := qAJ.dflt)]
    ·simp
    ·simp_all;omega
   ·have h : i < l.length := by omega
    refine Rnd.mk ⟨i + 1,?_,?_,?_⟩
    ·refine ⟨by omega,?_⟩
     rw [qF1 _ l i qAJ.dflt h,ha]
     simp_all
     omega
    ·omega
    ·all_goals exact vcA
   ·have : i = l.length := by omega
    subst this
    rw [List.take_length] at ha
    rw [qE1,ha,decide_eq_true (by omega)];rfl
def qGJ (n : qAG) : Bool := decide ((n.2.2.1.length : Int) ≤ 40) && decide ((n.2.2.2.2.1.length : Int) ≤ 300) && decide ((n.kids.length : Int) ≤ 60) && qE1 n.2.2.2.1
instance f9 (k s : Int) (nm : List UInt8) (at_ : List qAK) (d : List UInt8) (up : Int) (kids : List Int) :
  Fn BB 25 [.agg [.int .i64 k,.int .i64 s,.str nm,.rd qAJ at_,.str d,.int .i64 up,.rd qAI kids]] True (.bool (qGJ (k,s,nm,at_,d,up,kids))) := by
 refine Fn.intro (N := 24) [0,1,2] [] Tryz.call25 Tryz.func25 rfl rfl (by kernel_rfl) (fun hpre => ?_)
 all_goals exact vcA
def qBZ (l : List qAG) (most : Int) : Bool := decide (l.length ≤ most) && l.all qGJ
instance f8 (l : List qAG) (most : Int) : Fn BB 11 [.agg [.rd qAB l],.int .i64 most] True (.bool (qBZ l most)) := by
 refine Fn.intro (N := 23) [0,1,2,4,6,11,13,14,15,16,21] [] Tryz.call11 Tryz.func11 rfl rfl (by kernel_rfl) (fun hpre => ?_)
 repeat' ((conv => whnf);first|exact qR|intro _|refine WA ?_ ?_|refine WF ?_|refine W1 rfl ?_ ?_|refine W2 rfl ?_ ?_|refine W3 rfl ?_ ?_|refine W4 ?_ ?_|refine W5 rfl ?_ ?_|refine W6 ?_ ?_|refine WN ?_|refine X1 (W1 rfl ?_ ?_)|refine X1 (W2 rfl ?_ ?_)|refine X2 (W7 rfl ?_ ?_)|refine X3 (W7 rfl ?_ ?_)|refine X4 (W7 rfl ?_ ?_)|refine X5 (W7 rfl ?_ ?_))
 all_goals (try (conv => whnf))
 ·simp only [qBZ,decide_eq_true_eq] at *
  rw [decide_eq_false (by omega)];rfl
 ·refine LoopStop.mk (α := Nat) (fun i => [(15,.int .i64 i)]) (fun _ => []) 20 (fun i => i ≤ l.length ∧ (l.take i).all qGJ = true) (fun i => l.length - i) 0 (by simp) ?_ (fun i hi => ?_)
  ·repeat' ((conv => whnf);first|exact qR|intro _|refine WA ?_ ?_|refine WF ?_|refine W1 rfl ?_ ?_|refine W2 rfl ?_ ?_|refine W3 rfl ?_ ?_|refine W4 ?_ ?_|refine W5 rfl ?_ ?_|refine W6 ?_ ?_|refine WN ?_|refine X1 (W1 rfl ?_ ?_)|refine X1 (W2 rfl ?_ ?_)|refine X2 (W7 rfl ?_ ?_)|refine X3 (W7 rfl ?_ ?_)|refine X4 (W7 rfl ?_ ?_)|refine X5 (W7 rfl ?_ ?_))
   all_goals (try (conv => whnf))
   all_goals (try rfl)
  ·obtain ⟨hi,ha⟩ := hi
   repeat' ((conv => whnf);first|exact qR|intro _|refine WA ?_ ?_|refine WF ?_|refine W1 rfl ?_ ?_|refine W2 rfl ?_ ?_|refine W3 rfl ?_ ?_|refine W4 ?_ ?_|refine W5 rfl ?_ ?_|refine W6 ?_ ?_|refine WN ?_|refine X1 (W1 rfl ?_ ?_)|refine X1 (W2 rfl ?_ ?_)|refine X2 (W7 rfl ?_ ?_)|refine X3 (W7 rfl ?_ ?_)|refine X4 (W7 rfl ?_ ?_)|refine X5 (W7 rfl ?_ ?_))
   all_goals (try (conv => whnf))
   all_goals (try first|exact obA|refine Ob.mk ?_)
   all_goals (try simp only [ZA,ZB,ZC,ZD,ZE,ZF,ZG,ZH,ZI,ZJ,ZK,ZL,ZM,ZN,ZO,Int.toNat_natCast,UInt8.ofNat_toNat,cast_eq] at *)
   ·have h : i < l.length := by omega
    rw [qBZ,qD1 h (d := qAB.dflt)]
    ·simp
    ·simp_all
   ·have h : i < l.length := by omega
    refine Rnd.mk ⟨i + 1,?_,?_,?_⟩
    ·refine ⟨by omega,?_⟩
     rw [qF1 _ l i qAB.dflt h,ha]
     simp_all
    ·omega
    ·all_goals exact vcA
   ·have : i = l.length := by omega
    subst this
    rw [List.take_length] at ha
    rw [qBZ,ha,decide_eq_true (by omega)];rfl
end Go.Vc

namespace Go.Vc
open Go.Proofs
set_option maxRecDepth 10000
instance f14 (l : List Int) : FnM BB 24 [.rd qAI l] [] (l.length ≤ 100000) (.own 0) [(0,.own qAI l)] := by
 refine FnM.intro (N := 8) [0,2,4] [] 1 Tryz.call24 Tryz.func24 rfl rfl (by kernel_rfl) (fun hpre => ?_)
 repeat' ((conv => whnf);first|exact qR|intro _|refine WA ?_ ?_|refine WF ?_|refine W1 rfl ?_ ?_|refine W2 rfl ?_ ?_|refine W3 rfl ?_ ?_|refine W4 ?_ ?_|refine W5 rfl ?_ ?_|refine W6 ?_ ?_|refine WN ?_|refine X1 (W1 rfl ?_ ?_)|refine X1 (W2 rfl ?_ ?_)|refine X2 (W7 rfl ?_ ?_)|refine X3 (W7 rfl ?_ ?_)|refine X4 (W7 rfl ?_ ?_)|refine X5 (W7 rfl ?_ ?_))
 all_goals (try (conv => whnf))
 all_goals (try first|exact obA|refine Ob.mk ?_)
 all_goals (try simp_all)
instance f36 (l : List qAK) : FnM BB 23 [.rd qAJ l] [] (l.length ≤ 100000) (.own 0) [(0,.own qAJ l)] := by
 refine FnM.intro (N := 8) [0,2,4] [] 1 Tryz.call23 Tryz.func23 rfl rfl (by kernel_rfl) (fun hpre => ?_)
 repeat' ((conv => whnf);first|exact qR|intro _|refine WA ?_ ?_|refine WF ?_|refine W1 rfl ?_ ?_|refine W2 rfl ?_ ?_|refine W3 rfl ?_ ?_|refine W4 ?_ ?_|refine W5 rfl ?_ ?_|refine W6 ?_ ?_|refine WN ?_|refine X1 (W1 rfl ?_ ?_)|refine X1 (W2 rfl ?_ ?_)|refine X2 (W7 rfl ?_ ?_)|refine X3 (W7 rfl ?_ ?_)|refine X4 (W7 rfl ?_ ?_)|refine X5 (W7 rfl ?_ ?_))
 all_goals (try (conv => whnf))
 all_goals (try first|exact obA|refine Ob.mk ?_)
 all_goals (try simp_all)
def qQX (l : List Int) (w : Int) : Int := if l.contains w then (l.idxOf w : Int) else -1
theorem qHB {l : List Int} {w : Int} (h : l.contains w = false) : qQX l w = -1 := by rw [qQX,h];rfl
theorem qHP (l : List Int) (i : Nat) (w : Int) (h : i < l.length) : (l.take (i+1)).contains w = ((l.take i).contains w || (l.getD i 0 == w)) := by
 rw [take_snoc l i 0 h]
 simp only [List.contains_eq_any_beq,List.any_append,List.any_cons,List.any_nil,Bool.or_false]
 congr 1
 exact Bool.beq_comm
theorem qNX {l : List Int} {w : Int} {i : Nat} (h : i < l.length) (h1 : (l.take i).contains w = false) (h2 : w = l.getD i 0) : qQX l w = i := by
 have hc : l.contains w = true := by rw [h2];simp [List.getD,List.getElem?_eq_getElem h]
 rw [qQX,hc,if_pos rfl]
 have e := List.take_append_drop i l
 rw [← e,List.idxOf_append,if_neg (by simpa using h1),List.length_take,Nat.min_eq_left (by omega)]
 have e2 : l.drop i = w :: l.drop (i+1) := by rw [List.drop_eq_getElem_cons h,h2];simp [List.getD,List.getElem?_eq_getElem h]
 rw [e2,List.idxOf_cons_self];simp
end Go.Vc

namespace Go.Vc
open Go.Proofs
set_option maxRecDepth 10000
abbrev nd (l : List qAG) (i : Int) : qAG := l.getD i.toNat qAB.dflt
def qPT (l : List qAG) (kid : Int) : Int := if isT l kid && isT l (nd l kid).up then qQX (nd l (nd l kid).up).kids kid else -1
theorem qD7 {l : List qAG} {i : Int} : isT l i = true ↔ 0 ≤ i ∧ i < l.length := by simp [isT]
theorem qSY {a b : Bool} (h : (!a || !b) = true) : (a && b) = false := by cases a <;> cases b <;> simp_all
theorem qP7 {a b : Bool} (h : (!a || !b) = false) : a = true ∧ b = true := by cases a <;> cases b <;> simp_all
def qHV : Nat → List qAG → Int → Int → Bool
 | 0,_,_,_ => false
 | n + 1,l,up,kid => if isT l kid then (if kid = up then true else qHV n l up (nd l kid).up) else false
def qMD (l : List qAG) (up kid : Int) : Bool := isT l up && qHV (l.length + 1) l up kid
theorem qJB {α : Type} {a b : List α} {i : Nat} {d : α} (h : i < a.length) (hl : a.length = b.length) (ht : a.take i = b.take i) (he : a.getD i d = b.getD i d) : a.take (i + 1) = b.take (i + 1) := by
 rw [take_snoc a i d h,take_snoc b i d (by omega),ht,he]
instance f54 (a b : List qAK) : Fn BB 52 [.rd qAJ a,.rd qAJ b] True (.bool (decide (a = b))) := by
 refine Fn.intro (N := 26) [0,1,4,5,10,14,25] [(6,[0,0,1,1,0,0,1,1,3])] Tryz.call52 Tryz.func52 rfl rfl (by kernel_rfl) (fun hpre => ?_)
 repeat' ((conv => whnf);first|exact qR|intro _|refine WA ?_ ?_|refine WF ?_|refine W1 rfl ?_ ?_|refine W2 rfl ?_ ?_|refine W3 rfl ?_ ?_|refine W4 ?_ ?_|refine W5 rfl ?_ ?_|refine W6 ?_ ?_|refine WN ?_|refine X1 (W1 rfl ?_ ?_)|refine X1 (W2 rfl ?_ ?_)|refine X2 (W7 rfl ?_ ?_)|refine X3 (W7 rfl ?_ ?_)|refine X4 (W7 rfl ?_ ?_)|refine X5 (W7 rfl ?_ ?_))
 all_goals (try (conv => whnf))
 ·refine (decide_eq_false fun e => ?_).symm
  subst e;simp_all
 ·refine LoopStop.mk (α := Nat) (fun i => [(5,.int .i64 i)]) (fun _ => []) 20 (fun i => i ≤ a.length ∧ a.take i = b.take i) (fun i => a.length - i) 0 (by simp) ?_ (fun i hi => ?_)
  ·repeat' ((conv => whnf);first|exact qR|intro _|refine WA ?_ ?_|refine WF ?_|refine W1 rfl ?_ ?_|refine W2 rfl ?_ ?_|refine W3 rfl ?_ ?_|refine W4 ?_ ?_|refine W5 rfl ?_ ?_|refine W6 ?_ ?_|refine WN ?_|refine X1 (W1 rfl ?_ ?_)|refine X1 (W2 rfl ?_ ?_)|refine X2 (W7 rfl ?_ ?_)|refine X3 (W7 rfl ?_ ?_)|refine X4 (W7 rfl ?_ ?_)|refine X5 (W7 rfl ?_ ?_))
   all_goals (try (conv => whnf))
   all_goals (try rfl)
  ·obtain ⟨hi,ha⟩ := hi
   repeat' ((conv => whnf);first|exact qR|intro _|refine WA ?_ ?_|refine WF ?_|refine W1 rfl ?_ ?_|refine W2 rfl ?_ ?_|refine W3 rfl ?_ ?_|refine W4 ?_ ?_|refine W5 rfl ?_ ?_|refine W6 ?_ ?_|refine WN ?_|refine X1 (W1 rfl ?_ ?_)|refine X1 (W2 rfl ?_ ?_)|refine X2 (W7 rfl ?_ ?_)|refine X3 (W7 rfl ?_ ?_)|refine X4 (W7 rfl ?_ ?_)|refine X5 (W7 rfl ?_ ?_))
   all_goals (try (conv => whnf))
   all_goals (try first|exact obA|refine Ob.mk ?_)
   all_goals (simp only [decide_eq_true_eq,decide_eq_false_iff_not,bne_eq_false_iff_eq,Bool.not_eq_true',Bool.not_eq_false',Bool.and_true] at *)
   ·refine (decide_eq_false fun e => ?_).symm
    subst e;simp_all
   ·rename_i h
    simp only [Bool.and_eq_true,beq_iff_eq] at h
    have hil : i < a.length := by omega
    refine Rnd.mk ⟨i + 1,?_,?_,?_⟩
    ·exact ⟨by omega,qJB (d := qAJ.dflt) hil (by omega) ha (Prod.ext h.1 h.2)⟩
    ·omega
    ·all_goals exact vcA
   ·have : i = a.length := by omega
    subst this
    refine (decide_eq_true ?_).symm
    rw [List.take_length,List.take_of_length_le (by omega)] at ha
    exact ha
end Go.Vc

namespace Go.Vc
open Go.Proofs
set_option maxRecDepth 10000
noncomputable def eqB {α : Type} (a b : α) : Bool := @decide (a = b) (Classical.propDecidable _)
theorem qdB {α : Type} {a b : α} (h : a = b) : true = eqB a b := by unfold eqB;simp [h]
theorem qK2 {α : Type} {a b : α} (h : a ≠ b) : false = eqB a b := by unfold eqB;simp [h]
end Go.Vc

namespace Go.Vc
open Go.Proofs
set_option maxRecDepth 10000
set_option maxHeartbeats 4000000
def qM4 (nm : List UInt8) (a : qAK) : Bool := a.1 == nm
def qVF (l : List qAK) (nm : List UInt8) : List UInt8 := match l.find? (qM4 nm) with | some a => a.2 | none => []
theorem qaG {l : List qAK} {nm : List UInt8} {k : Nat} (hk : k < l.length) (ha : (l.take k).all (fun x => !qM4 nm x) = true) (h : qM4 nm (l.getD k qAJ.dflt) = true) : qVF l nm = (l.getD k qAJ.dflt).2 ∧ l.any (qM4 nm) = true := by
 induction l generalizing k with
 | nil => simp at hk
 | cons x r ih =>
  cases k with
  | zero =>
   have h' : qM4 nm x = true := h
   unfold qVF
   rw [List.find?_cons,h',List.any_cons,h']
   exact ⟨rfl,rfl⟩
  | succ k =>
   rw [List.take_succ_cons,List.all_cons,Bool.and_eq_true,Bool.not_eq_true'] at ha
   have := ih (by simpa using hk) ha.2 h
   unfold qVF at *
   rw [List.find?_cons,ha.1,List.any_cons,ha.1,Bool.false_or]
   exact this
theorem qHF {l : List qAK} {nm : List UInt8} (ha : l.all (fun x => !qM4 nm x) = true) : qVF l nm = [] ∧ l.any (qM4 nm) = false := by
 induction l with
 | nil => exact ⟨rfl,rfl⟩
 | cons x r ih =>
  rw [List.all_cons,Bool.and_eq_true,Bool.not_eq_true'] at ha
  have := ih ha.2
  unfold qVF at *
  rw [List.find?_cons,ha.1,List.any_cons,ha.1,Bool.false_or]
  exact this
instance xRGet (l : List qAK) (nm : List UInt8) : Fn BB 152 [.rd qAJ l,.str nm] (l.length ≤ 100000) (.tup [.str (qVF l nm),.bool (l.any (qM4 nm))]) := by
 refine Fn.intro (N := 25) [0,1,4,5,6,10,19] [] Tryz.call152 Tryz.func152 rfl rfl (by kernel_rfl) (fun hpre => ?_)
 repeat' ((conv => whnf);first|exact qR|intro _|refine WA ?_ ?_|refine WF ?_|refine W1 rfl ?_ ?_|refine W2 rfl ?_ ?_|refine W3 rfl ?_ ?_|refine W4 ?_ ?_|refine W5 rfl ?_ ?_|refine W6 ?_ ?_|refine WN ?_|refine X1 (W1 rfl ?_ ?_)|refine X1 (W2 rfl ?_ ?_)|refine X2 (W7 rfl ?_ ?_)|refine X3 (W7 rfl ?_ ?_)|refine X4 (W7 rfl ?_ ?_)|refine X5 (W7 rfl ?_ ?_))
 all_goals (try (conv => whnf))
 all_goals (try first|exact obA|refine Ob.mk ?_)
 refine LoopStop.mk (α := Nat) (fun k => [(6,.int .i64 k)]) (fun _ => []) 20 (fun k => k ≤ l.length ∧ (l.take k).all (fun x => !qM4 nm x) = true) (fun k => l.length - k) 0 (by simp) ?_ (fun k hk => ?_)
 ·all_goals exact vcA
 ·obtain ⟨hk,ha⟩ := hk
  repeat' ((conv => whnf);first|exact qR|intro _|refine WA ?_ ?_|refine WF ?_|refine W1 rfl ?_ ?_|refine W2 rfl ?_ ?_|refine W3 rfl ?_ ?_|refine W4 ?_ ?_|refine W5 rfl ?_ ?_|refine W6 ?_ ?_|refine WN ?_|refine X1 (W1 rfl ?_ ?_)|refine X1 (W2 rfl ?_ ?_)|refine X2 (W7 rfl ?_ ?_)|refine X3 (W7 rfl ?_ ?_)|refine X4 (W7 rfl ?_ ?_)|refine X5 (W7 rfl ?_ ?_))
  all_goals (try (conv => whnf))
  all_goals (try first|exact obA|refine Ob.mk ?_)
  all_goals (try simp only [Int.toNat_natCast] at *)
  all_goals (try (have hp : k < l.length := by have h := of_decide_eq_true ‹decide ((k : Int) < (l.length : Int)) = true›;omega))
  all_goals (try (have hh := qaG (nm := nm) hp ha (show ((l.getD k qAJ.dflt).1 == nm) = true from ‹_›)))
  all_goals (try (have hz : k = l.length := by have h := of_decide_eq_false ‹decide ((k : Int) < (l.length : Int)) = false›;omega))
  all_goals (first | omega | (rw [hh.1];done) | (rw [hh.2];done) | (subst hz;rw [List.take_length] at ha;rw [(qHF ha).1];done) | (subst hz;rw [List.take_length] at ha;rw [(qHF ha).2];done) | skip)
  have h : ((l.getD k qAJ.dflt).1 == nm) = false := ‹_›
  refine Rnd.mk ⟨k + 1,⟨by omega,?_⟩,by omega,?_⟩
  ·rw [qF1 (fun x => !qM4 nm x) l k qAJ.dflt hp,ha]
   show (true && !((l.getD k qAJ.dflt).1 == nm)) = true
   rw [h];rfl
  ·all_goals exact vcA
end Go.Vc

namespace Go.Vc
open Go.Proofs
set_option maxRecDepth 10000
def qFT (l : List qAG) : Bool := decide (l.length ≤ 1000) && l.all fun n => decide (n.2.2.2.1.length ≤ 1000) && decide (n.kids.length ≤ 1000)
end Go.Vc

namespace Go.Vc
open Go.Proofs
set_option maxRecDepth 10000
theorem qKB {l : List qAG} (h : qFT l = true) (i : Int) (hi : isT l i = true) : (nd l i).2.2.2.1.length ≤ 1000 ∧ (nd l i).kids.length ≤ 1000 := by
 simp only [qFT,Bool.and_eq_true,List.all_eq_true,decide_eq_true_eq] at h
 obtain ⟨h1,h2⟩ := qD7.1 hi
 refine h.2 (nd l i) ?_
 have : i.toNat < l.length := by omega
 simp [nd,List.getD,List.getElem?_eq_getElem this]
theorem qQ4 {l : List qAG} (h : qFT l = true) : l.length ≤ 1000 := by
 simp only [qFT,Bool.and_eq_true,decide_eq_true_eq] at h
 exact h.1
end Go.Vc

namespace Go.Vc
open Go.Proofs
set_option maxRecDepth 10000
def qZ8 : qAG := ((0 : Int),(0 : Int),([] : List UInt8),([] : List qAK),([] : List UInt8),(-1 : Int),([] : List Int))
theorem FnM.wk {B : Base} {f : FuncId} {args args' : List SV} {Φ : Phi} {pre : Prop} {res : SV} {Φ' : Phi} (F : FnM B f args Φ pre res Φ') (h : ∀ r β vs,qAU r β args' vs → qAU r β args vs) : FnM B f args' Φ pre res Φ' :=
 ⟨F.call,fun hp r β w vs hG m hl => F.ok hp r β w vs hG m (h r β vs hl)⟩
theorem qX0 {r β v} {τ : Ty} (h : Rel r β .nils v) : Rel r β (.rd τ []) v := by cases h;exact .rd .litsE
end Go.Vc

namespace Go.Vc
set_option autoImplicit false
abbrev Ev := Nat × Int × Nat × Bool
def unseen (s : List Bool) : Nat := s.count false
def okK (s : List Bool) (k : Int) : Bool := decide (0 ≤ k) && !(s.getD k.toNat true)
theorem qBW {s : List Bool} {k : Int} (h : okK s k = true) : 0 ≤ k ∧ k.toNat < s.length ∧ s[k.toNat]? = some false := by
 unfold okK at h
 simp only [Bool.and_eq_true,decide_eq_true_eq,Bool.not_eq_true'] at h
 have hl : k.toNat < s.length := by
  rcases Nat.lt_or_ge k.toNat s.length with q | q
  ·exact q
  ·have := h.2;simp [List.getD,List.getElem?_eq_none q] at this
 refine ⟨h.1,hl,?_⟩
 have := h.2
 rw [List.getD_eq_getElem?_getD,List.getElem?_eq_getElem hl] at this
 rw [List.getElem?_eq_getElem hl]
 simpa using this
theorem qBA {s : List Bool} {k : Nat} (h : s[k]? = some false) : unseen (s.set k true) + 1 = unseen s := by
 unfold unseen
 induction s generalizing k with
 | nil => cases h
 | cons x r ih =>
  cases k with
  | zero => simp at h;subst h;simp
  | succ k =>
   have := ih (k := k) (by simpa using h)
   simp only [List.set_cons_succ,List.count_cons]
   omega
def dfs (K : Nat → List Int) (s : List Bool) (i j c : Nat) : List Ev × List Bool × Nat :=
 if h : j < (K i).length then
  if hk : okK s ((K i).getD j 0) = true then
   let r1 := dfs K (s.set ((K i).getD j 0).toNat true) ((K i).getD j 0).toNat 0 (c + 1)
   if hg : unseen r1.2.1 < unseen s then
    let r2 := dfs K r1.2.1 i (j + 1) r1.2.2
    ((((K i).getD j 0).toNat,(i : Int),c,false) :: (r1.1 ++ r2.1),r2.2.1,r2.2.2)
   else ([],s,c)
  else dfs K s i (j + 1) c
 else ([(i,0,c,true)],s,c + 1)
termination_by (unseen s,(K i).length - j)
decreasing_by
 ·have := qBA (qBW hk).2.2
  exact Prod.Lex.left _ _ (by omega)
 ·exact Prod.Lex.left _ _ hg
 ·exact Prod.Lex.right _ (by omega)
variable {K : Nat → List Int}
theorem qDJ {s : List Bool} {i j c : Nat} (h : ¬ j < (K i).length) : dfs K s i j c = ([(i,0,c,true)],s,c + 1) := by
 rw [dfs,dif_neg h]
theorem qDN {s : List Bool} {i j c : Nat} (h : j < (K i).length) (hk : okK s ((K i).getD j 0) = false) : dfs K s i j c = dfs K s i (j + 1) c := by
 rw [dfs,dif_pos h,dif_neg (by rw [hk];decide)]
theorem qYG {s : List Bool} {i j c : Nat} (h : j < (K i).length) (hk : okK s ((K i).getD j 0) = true) : dfs K s i j c =
  (let r1 := dfs K (s.set ((K i).getD j 0).toNat true) ((K i).getD j 0).toNat 0 (c + 1)
   if hg : unseen r1.2.1 < unseen s then
    let r2 := dfs K r1.2.1 i (j + 1) r1.2.2
    ((((K i).getD j 0).toNat,(i : Int),c,false) :: (r1.1 ++ r2.1),r2.2.1,r2.2.2)
   else ([],s,c)) := by
 rw [dfs,dif_pos h,dif_pos hk]
theorem qUC {P : List Bool → Nat → Nat → Nat → Prop}
  (h : ∀ s i j c,(∀ s' i' j' c',(unseen s' < unseen s ∨ (unseen s' = unseen s ∧ (K i').length - j' < (K i).length - j)) → P s' i' j' c') → P s i j c) : ∀ s i j c,P s i j c := by
 have main : ∀ a b s i j c,unseen s = a → (K i).length - j = b → P s i j c := by
  intro a
  induction a using Nat.strongRecOn with
  | ind a iha =>
   intro b
   induction b using Nat.strongRecOn with
   | ind b ihb =>
    intro s i j c ha hb
    refine h s i j c fun s' i' j' c' q => ?_
    rcases q with q | ⟨q1,q2⟩
    ·exact iha (unseen s') (by omega) _ s' i' j' c' rfl rfl
    ·exact ihb _ (by omega) s' i' j' c' (by omega) rfl
 exact fun s i j c => main _ _ s i j c rfl rfl
theorem qa7 : ∀ (s : List Bool) (i j c : Nat),unseen (dfs K s i j c).2.1 ≤ unseen s := by
 refine qUC (K := K) fun s i j c ih => ?_
 by_cases h : j < (K i).length
 ·cases hk : okK s ((K i).getD j 0) with
  | false => rw [qDN h hk];exact ih s i (j + 1) c (.inr ⟨rfl,by omega⟩)
  | true =>
   rw [qYG h hk]
   dsimp only
   split
   ·rename_i hg
    have := ih _ i (j + 1) (dfs K (s.set ((K i).getD j 0).toNat true) ((K i).getD j 0).toNat 0 (c + 1)).2.2 (.inl hg)
    exact Nat.le_trans this (Nat.le_of_lt hg)
   ·exact Nat.le_refl _
 ·rw [qDJ h];exact Nat.le_refl _
theorem qO9 {s : List Bool} {k : Nat} (hk : s[k]? = some false) (c : Nat) : unseen (dfs K (s.set k true) k 0 c).2.1 < unseen s := by
 have h1 := qa7 (K := K) (s.set k true) k 0 c
 have h2 := qBA hk
 omega
theorem qGK {s : List Bool} {i j c : Nat} (h : j < (K i).length) (hk : okK s ((K i).getD j 0) = true) : dfs K s i j c =
    ((((K i).getD j 0).toNat,(i : Int),c,false) :: ((dfs K (s.set ((K i).getD j 0).toNat true) ((K i).getD j 0).toNat 0 (c + 1)).1 ++
      (dfs K (dfs K (s.set ((K i).getD j 0).toNat true) ((K i).getD j 0).toNat 0 (c + 1)).2.1 i (j + 1) (dfs K (s.set ((K i).getD j 0).toNat true) ((K i).getD j 0).toNat 0 (c + 1)).2.2).1),
     (dfs K (dfs K (s.set ((K i).getD j 0).toNat true) ((K i).getD j 0).toNat 0 (c + 1)).2.1 i (j + 1) (dfs K (s.set ((K i).getD j 0).toNat true) ((K i).getD j 0).toNat 0 (c + 1)).2.2).2.1,
     (dfs K (dfs K (s.set ((K i).getD j 0).toNat true) ((K i).getD j 0).toNat 0 (c + 1)).2.1 i (j + 1) (dfs K (s.set ((K i).getD j 0).toNat true) ((K i).getD j 0).toNat 0 (c + 1)).2.2).2.2) := by
  rw [qYG h hk]
  dsimp only
  rw [dif_pos (qO9 (qBW hk).2.2 (c + 1))]
theorem qG2 {P : List Bool → Nat → Nat → Nat → Prop}
  (he : ∀ s i j c,¬ j < (K i).length → P s i j c)
  (hb : ∀ s i j c,j < (K i).length → okK s ((K i).getD j 0) = false → P s i (j + 1) c → P s i j c)
  (ho : ∀ s i j c,j < (K i).length → okK s ((K i).getD j 0) = true → P (s.set ((K i).getD j 0).toNat true) ((K i).getD j 0).toNat 0 (c + 1) →
   (P (dfs K (s.set ((K i).getD j 0).toNat true) ((K i).getD j 0).toNat 0 (c + 1)).2.1 i (j + 1) (dfs K (s.set ((K i).getD j 0).toNat true) ((K i).getD j 0).toNat 0 (c + 1)).2.2) → P s i j c) :
  ∀ s i j c,P s i j c := by
 refine qUC (K := K) fun s i j c ih => ?_
 by_cases h : j < (K i).length
 ·cases hk : okK s ((K i).getD j 0) with
  | false => exact hb s i j c h hk (ih s i (j + 1) c (.inr ⟨rfl,by omega⟩))
  | true =>
   have h2 := qBA (qBW hk).2.2
   exact ho s i j c h hk (ih _ _ _ _ (.inl (by omega))) (ih _ _ _ _ (.inl (qO9 (qBW hk).2.2 (c + 1))))
 ·exact he s i j c h
def qd5 (K : Nat → List Int) : List (Nat × Nat) → List Bool → Nat → List Ev
 | [],_,_ => []
 | (i,j) :: rest,s,c => (dfs K s i j c).1 ++ qd5 K rest (dfs K s i j c).2.1 (dfs K s i j c).2.2
def qf7 (K : Nat → List Int) (n : Nat) : List Ev := if n = 0 then [] else (0, -1,0,false) :: qd5 K [(0,0)] ((List.replicate n false).set 0 true) 1
end Go.Vc

namespace Go.Vc
set_option autoImplicit false
structure St where
 L : List Nat
 P : List Nat
 I : List Int
 O : List Int
 m : Nat
def St.step (x : St) (e : Ev) : St :=
 if e.2.2.2 = true then { x with P := x.P.dropLast,O := x.O.set e.1 (x.m : Int),m := x.m + 1 }
 else { x with L := x.L ++ [e.1],P := x.P ++ [e.1],I := x.I.set e.1 (x.m : Int),m := x.m + 1 }
structure Good (n : Nat) (x : St) : Prop where
 lI : x.I.length = n
 lO : x.O.length = n
 lt : ∀ u ∈ x.L,u < n
 nod : x.L.Nodup
 out : ∀ u,u ∉ x.L → x.I.getD u (-1) = -1 ∧ x.O.getD u (-1) = -1
 rI : ∀ u ∈ x.L,0 ≤ x.I.getD u (-1) ∧ x.I.getD u (-1) < x.m
 rO : ∀ u ∈ x.L,x.O.getD u (-1) = -1 ∨ (x.I.getD u (-1) < x.O.getD u (-1) ∧ x.O.getD u (-1) < x.m)
 srt : x.L.Pairwise fun a b => x.I.getD a (-1) < x.I.getD b (-1)
 stk : x.P = x.L.filter fun u => x.O.getD u (-1) == -1
 nest : ∀ u ∈ x.L,∀ v ∈ x.L,x.I.getD u (-1) < x.I.getD v (-1) → x.O.getD u (-1) = -1 ∨ x.O.getD u (-1) < x.I.getD v (-1) ∨ (x.O.getD v (-1) ≠ -1 ∧ x.O.getD v (-1) < x.O.getD u (-1))
 dis : ∀ u ∈ x.L,∀ v ∈ x.L,x.O.getD u (-1) ≠ -1 → x.O.getD u (-1) ≠ x.I.getD v (-1) ∧ (x.O.getD v (-1) = x.O.getD u (-1) → u = v)
 cnt : x.m + x.P.length = 2 * x.L.length
def quO (n : Nat) (x : St) (e : Ev) : Prop :=
 e.2.2.1 = x.m ∧ (if e.2.2.2 = true then x.P.getLast? = some e.1 else e.1 < n ∧ e.1 ∉ x.L)
theorem qDK {α : Type} (l : List α) (i j : Nat) (a d : α) : (l.set i a).getD j d = if i = j ∧ i < l.length then a else l.getD j d := by
 rw [List.getD_eq_getElem?_getD,List.getElem?_set]
 by_cases h : i = j
 ·subst h
  by_cases hl : i < l.length
  ·simp [hl]
  ·simp [hl,List.getD_eq_getElem?_getD,List.getElem?_eq_none (Nat.le_of_not_lt hl)]
 ·simp [h,List.getD_eq_getElem?_getD]
theorem Good.into {n : Nat} {x : St} (g : Good n x) {v : Nat} (hv : v < n) (hn : v ∉ x.L) :
  Good n { x with L := x.L ++ [v],P := x.P ++ [v],I := x.I.set v (x.m : Int),m := x.m + 1 } := by
 have hI : ∀ u,(x.I.set v (x.m : Int)).getD u (-1) = if v = u then (x.m : Int) else x.I.getD u (-1) := by
  intro u
  rw [qDK]
  by_cases h : v = u
  ·rw [if_pos h,if_pos ⟨h,by rw [g.lI];exact hv⟩]
  ·rw [if_neg h,if_neg (fun q => h q.1)]
 have ho := g.out v hn
 have hne : ∀ u ∈ x.L,v ≠ u := fun u hu e => hn (e ▸ hu)
 refine ⟨by simp [g.lI],g.lO,?_,?_,?_,?_,?_,?_,?_,?_,?_,?_⟩ <;> dsimp only
 ·intro u hu
  rcases List.mem_append.1 hu with h | h
  ·exact g.lt u h
  ·simp at h;subst h;exact hv
 ·rw [List.nodup_append]
  refine ⟨g.nod,by simp,?_⟩
  intro a ha b hb e
  simp at hb
  subst hb;subst e
  exact hn ha
 ·intro u hu
  simp only [List.mem_append,List.mem_singleton,not_or] at hu
  rw [hI,if_neg (fun e => hu.2 e.symm)]
  exact g.out u hu.1
 ·intro u hu
  rw [hI]
  rcases List.mem_append.1 hu with h | h
  ·rw [if_neg (hne u h)]
   have := g.rI u h
   omega
  ·simp at h;subst h;rw [if_pos rfl];omega
 ·intro u hu
  rw [hI]
  rcases List.mem_append.1 hu with h | h
  ·rw [if_neg (hne u h)]
   have := g.rO u h
   omega
  ·simp at h;subst h;exact .inl ho.2
 ·rw [List.pairwise_append]
  refine ⟨?_,by simp,?_⟩
  ·refine g.srt.imp_of_mem ?_
   intro a b ha hb h
   rw [hI,hI,if_neg (hne a ha),if_neg (hne b hb)]
   exact h
  ·intro a ha b hb
   simp at hb;subst hb
   rw [hI,hI,if_neg (hne a ha),if_pos rfl]
   exact (g.rI a ha).2
 ·rw [List.filter_append, ← g.stk]
  simp only [List.filter_cons,List.filter_nil,ho.2]
  rfl
 ·intro u hu w hw
  rw [hI,hI]
  rcases List.mem_append.1 hu with h | h
  ·rw [if_neg (hne u h)]
   rcases List.mem_append.1 hw with k | k
   ·rw [if_neg (hne w k)];exact g.nest u h w k
   ·simp at k;subst k
    rw [if_pos rfl]
    intro _
    have := g.rO u h
    omega
  ·simp at h;subst h
   rw [if_pos rfl]
   exact fun _ => .inl ho.2
 ·intro u hu w hw hq
  rw [hI]
  rcases List.mem_append.1 hu with h | h
  ·rcases List.mem_append.1 hw with k | k
   ·rw [if_neg (hne w k)];exact g.dis u h w k hq
   ·simp at k;subst k
    rw [if_pos rfl]
    have := g.rO u h
    refine ⟨by omega,fun e => ?_⟩
    rw [ho.2] at e
    exact absurd e.symm hq
  ·simp at h;subst h
   exact absurd ho.2 hq
 ·have := g.cnt
  simp only [List.length_append,List.length_cons,List.length_nil]
  omega
theorem qSM {α : Type} [BEq α] [LawfulBEq α] {l : List α} (hn : l.Nodup) {p q : α → Bool} {v : α} (hv : (l.filter p).getLast? = some v)
  (hq : ∀ u,q u = (p u && !(u == v))) : l.filter q = (l.filter p).dropLast := by
 have e : l.filter q = (l.filter p).filter fun u => !(u == v) := by
  rw [List.filter_filter]
  exact List.filter_congr fun u _ => by rw [hq u,Bool.and_comm]
 rw [e]
 have hnp := hn.filter p
 generalize l.filter p = m at *
 rcases List.eq_nil_or_concat m with rfl | ⟨r,a,rfl⟩
 ·simp at hv
 ·rw [List.concat_eq_append] at *
  simp at hv
  subst hv
  rw [List.pairwise_append] at hnp
  simp only [List.filter_append,List.filter_cons,List.filter_nil,beq_self_eq_true,Bool.not_true,Bool.false_eq_true,if_false,List.append_nil,List.dropLast_concat]
  rw [List.filter_eq_self]
  intro u hu
  have := hnp.2.2 u hu a (by simp)
  simpa using this
theorem Good.leave {n : Nat} {x : St} (g : Good n x) {v : Nat} (hl : x.P.getLast? = some v) :
  Good n { x with P := x.P.dropLast,O := x.O.set v (x.m : Int),m := x.m + 1 } := by
 have hvP : v ∈ x.P := List.mem_of_getLast? hl
 have hvP' := hvP
 rw [g.stk,List.mem_filter] at hvP'
 have hvL := hvP'.1
 have hvO : x.O.getD v (-1) = -1 := by simpa using hvP'.2
 have hvn := g.lt v hvL
 have hO : ∀ u,(x.O.set v (x.m : Int)).getD u (-1) = if v = u then (x.m : Int) else x.O.getD u (-1) := by
  intro u
  rw [qDK]
  by_cases h : v = u
  ·rw [if_pos h,if_pos ⟨h,by rw [g.lO];exact hvn⟩]
  ·rw [if_neg h,if_neg (fun q => h q.1)]
 have hlast : ∀ w ∈ x.L,x.I.getD v (-1) < x.I.getD w (-1) → x.O.getD w (-1) ≠ -1 := by
  intro w hw hlt ho
  have hwP : w ∈ x.P := by rw [g.stk,List.mem_filter];exact ⟨hw,by simpa using ho⟩
  have hs : x.P.Pairwise fun a b => x.I.getD a (-1) < x.I.getD b (-1) := by rw [g.stk];exact g.srt.filter _
  rcases List.eq_nil_or_concat x.P with he | ⟨r,a,he⟩
  ·rw [he] at hl;cases hl
  ·rw [List.concat_eq_append] at he
   rw [he] at hl hwP hs
   simp at hl
   subst hl
   rw [List.pairwise_append] at hs
   rcases List.mem_append.1 hwP with h | h
   ·have := hs.2.2 w h a (by simp);omega
   ·simp at h;subst h;omega
 refine ⟨g.lI,by simp [g.lO],g.lt,g.nod,?_,?_,?_,g.srt,?_,?_,?_,?_⟩ <;> dsimp only
 ·intro u hu
  rw [hO,if_neg (fun e : v = u => hu (e ▸ hvL))]
  exact g.out u hu
 ·intro u hu
  have := g.rI u hu
  omega
 ·intro u hu
  rw [hO]
  have h1 := g.rI u hu
  have h2 := g.rO u hu
  split <;> omega
 ·rw [g.stk] at hl
  rw [g.stk]
  refine (qSM g.nod hl fun u => ?_).symm
  rw [hO]
  by_cases h : v = u
  ·subst h;rw [if_pos rfl]
   have : ((x.m : Int) == -1) = false := beq_eq_false_iff_ne.mpr (by omega)
   rw [this];simp
  ·rw [if_neg h,show (u == v) = false from beq_eq_false_iff_ne.mpr (fun e => h e.symm)];simp
 ·intro u hu w hw hlt
  rw [hO,hO]
  have h0 := g.nest u hu w hw hlt
  have hru := g.rO u hu
  by_cases h : v = u
  ·subst h
   rw [if_pos rfl]
   have hwo := hlast w hw hlt
   have hrw := g.rO w hw
   rw [if_neg (by rintro rfl;omega)]
   omega
  ·rw [if_neg h]
   by_cases h' : v = w
   ·subst h'
    rw [if_pos rfl]
    omega
   ·rw [if_neg h'];exact h0
 ·intro u hu w hw hq
  rw [hO] at hq ⊢
  rw [hO]
  have hru := g.rO u hu
  have hrw := g.rO w hw
  have hiw := g.rI w hw
  by_cases h : v = u
  ·subst h
   rw [if_pos rfl] at hq ⊢
   refine ⟨by omega,fun e => ?_⟩
   by_cases h' : v = w
   ·exact h'
   ·rw [if_neg h'] at e;omega
  ·rw [if_neg h] at hq ⊢
   have h0 := g.dis u hu w hw hq
   refine ⟨h0.1,fun e => ?_⟩
   by_cases h' : v = w
   ·rw [if_pos h'] at e;omega
   ·rw [if_neg h'] at e;exact h0.2 e
 ·have := g.cnt
  have hp : 0 < x.P.length := List.length_pos_of_mem hvP
  simp only [List.length_dropLast]
  omega
theorem Good.step {n : Nat} {x : St} (g : Good n x) {e : Ev} (h : quO n x e) : Good n (x.step e) := by
 obtain ⟨h1,h2⟩ := h
 unfold St.step
 split
 ·rename_i hl
  rw [if_pos hl] at h2
  exact g.leave h2
 ·rename_i hl
  rw [if_neg hl] at h2
  exact g.into h2.1 h2.2
def qRU (n : Nat) : St → List Ev → Prop
 | _,[] => True
 | x,e :: r => quO n x e ∧ qRU n (x.step e) r
def St.run (x : St) (l : List Ev) : St := l.foldl St.step x
theorem qYK {n : Nat} : ∀ {x : St} {a b : List Ev},qRU n x a → qRU n (x.run a) b → qRU n x (a ++ b) := by
 intro x a
 induction a generalizing x with
 | nil => intro b _ h;exact h
 | cons e a ih => intro b h1 h2;exact ⟨h1.1,ih h1.2 h2⟩
theorem qLH (x : St) (a b : List Ev) : x.run (a ++ b) = (x.run a).run b := by unfold St.run;rw [List.foldl_append]
theorem Good.run {n : Nat} : ∀ {l : List Ev} {x : St},Good n x → qRU n x l → Good n (x.run l) := by
 intro l
 induction l with
 | nil => intro x g _;exact g
 | cons e l ih => intro x g h;exact ih (g.step h.1) h.2
def Seen (s : List Bool) (x : St) : Prop := ∀ u,u < s.length → (s.getD u true = true ↔ u ∈ x.L)
theorem qf8 {K : Nat → List Int} : ∀ (s : List Bool) (i j c : Nat),(dfs K s i j c).2.1.length = s.length := by
 refine qG2 (K := K) ?_ ?_ ?_
 ·intro s i j c h;rw [qDJ h]
 ·intro s i j c h hk ih;rw [qDN h hk];exact ih
 ·intro s i j c h hk i1 i2;rw [qGK h hk];dsimp only;rw [i2,i1,List.length_set]
theorem qd6 {K : Nat → List Int} (n : Nat) : ∀ (s : List Bool) (i j c : Nat) (x : St) (P0 : List Nat),s.length = n → Seen s x → x.P = P0 ++ [i] → x.m = c →
  qRU n x (dfs K s i j c).1 ∧ (x.run (dfs K s i j c).1).P = P0 ∧ (x.run (dfs K s i j c).1).m = (dfs K s i j c).2.2 ∧ Seen (dfs K s i j c).2.1 (x.run (dfs K s i j c).1) := by
 refine qG2 (K := K) ?_ ?_ ?_
 ·intro s i j c h x P0 hs hx hP hm
  rw [qDJ h]
  have e : x.run [(i,0,c,true)] = { x with P := x.P.dropLast,O := x.O.set i (x.m : Int),m := x.m + 1 } := rfl
  refine ⟨⟨⟨hm.symm,?_⟩,trivial⟩,?_,?_,?_⟩
  ·rw [if_pos rfl,hP];simp
  ·rw [e];dsimp only;rw [hP];simp
  ·rw [e];dsimp only;rw [hm]
  ·rw [e];exact hx
 ·intro s i j c h hk ih
  rw [qDN h hk];exact ih
 ·intro s i j c h hk i1 i2 x P0 hs hx hP hm
  have hok := qBW hk
  rw [qGK h hk]
  dsimp only
  generalize hkk : ((K i).getD j 0).toNat = k at *
  have hkn : k < n := by rw [← hs];exact hok.2.1
  have hkL : k ∉ x.L := by
   intro q
   have := (hx k (by omega)).2 q
   rw [List.getD_eq_getElem?_getD,hok.2.2] at this
   cases this
  have e0 : x.step (k,(i : Int),c,false) = { x with L := x.L ++ [k],P := x.P ++ [k],I := x.I.set k (x.m : Int),m := x.m + 1 } := rfl
  have hx1 : Seen (s.set k true) (x.step (k,(i : Int),c,false)) := by
   intro u hu
   rw [List.length_set] at hu
   rw [qDK,e0]
   dsimp only
   rw [List.mem_append,List.mem_singleton]
   by_cases q : k = u
   ·rw [if_pos ⟨q,by omega⟩];simp [q]
   ·rw [if_neg (fun z => q z.1),hx u hu]
    constructor
    ·exact .inl
    ·rintro (z | z)
     ·exact z
     ·exact absurd z.symm q
  obtain ⟨a1,a2,a3,a4⟩ := i1 (x.step (k,(i : Int),c,false)) x.P (by rw [List.length_set];exact hs) hx1 (by rw [e0]) (by rw [e0];dsimp only;rw [hm])
  generalize hr1 : dfs K (s.set k true) k 0 (c + 1) = r1 at *
  have hl1 : r1.2.1.length = n := by rw [← hr1,qf8,List.length_set,hs]
  obtain ⟨b1,b2,b3,b4⟩ := i2 ((x.step (k,(i : Int),c,false)).run r1.1) P0 hl1 a4 (by rw [a2,hP]) a3
  refine ⟨⟨⟨hm.symm,?_⟩,qYK a1 b1⟩,?_,?_,?_⟩
  ·rw [if_neg (by simp)];exact ⟨hkn,hkL⟩
  ·show ((x.step _).run (r1.1 ++ _)).P = P0;rw [qLH];exact b2
  ·show ((x.step _).run (r1.1 ++ _)).m = _;rw [qLH];exact b3
  ·show Seen _ ((x.step _).run (r1.1 ++ _));rw [qLH];exact b4
def st0 (n : Nat) : St := { L := [],P := [],I := List.replicate n (-1),O := List.replicate n (-1),m := 0 }
theorem qQI {α : Type} (n : Nat) (a : α) (u : Nat) : (List.replicate n a).getD u a = a := by
 rw [List.getD_eq_getElem?_getD,List.getElem?_replicate]
 split <;> rfl
theorem quJ (n : Nat) : Good n (st0 n) := by
 refine ⟨by simp [st0],by simp [st0],by simp [st0],by simp [st0],?_,by simp [st0],by simp [st0],by simp [st0],by simp [st0],by simp [st0],by simp [st0],by simp [st0]⟩
 intro u _
 exact ⟨qQI n _ u,qQI n _ u⟩
theorem qeY (K : Nat → List Int) (n : Nat) : qRU n (st0 n) (qf7 K n) ∧ ((st0 n).run (qf7 K n)).P = [] := by
 unfold qf7
 split
 ·exact ⟨trivial,rfl⟩
 ·rename_i hn
  have hn : 0 < n := by omega
  have hseen : Seen ((List.replicate n false).set 0 true) ((st0 n).step (0, -1,0,false)) := by
   intro u hu
   rw [List.length_set,List.length_replicate] at hu
   rw [qDK]
   show _ ↔ u ∈ [0]
   rw [List.mem_singleton,List.length_replicate]
   by_cases q : 0 = u
   ·rw [if_pos ⟨q,hn⟩];simp [q]
   ·rw [if_neg (fun z => q z.1),List.getD_eq_getElem?_getD,List.getElem?_replicate,if_pos hu]
    constructor
    ·intro z;cases z
    ·intro z;exact absurd z.symm q
  obtain ⟨a1,a2,a3,a4⟩ := qd6 (K := K) n ((List.replicate n false).set 0 true) 0 0 1 ((st0 n).step (0, -1,0,false)) [] (by simp) hseen rfl rfl
  have e : qd5 K [(0,0)] ((List.replicate n false).set 0 true) 1 = (dfs K ((List.replicate n false).set 0 true) 0 0 1).1 := by
   rw [qd5,qd5,List.append_nil]
  rw [e]
  exact ⟨⟨⟨rfl,by rw [if_neg (by decide)];exact ⟨hn,by simp [st0]⟩⟩,a1⟩,a2⟩
end Go.Vc

namespace Go.Vc
set_option autoImplicit false
structure Mono (x y : St) : Prop where
 L : ∃ l,y.L = x.L ++ l ∧ ∀ u ∈ l,(x.m : Int) ≤ y.I.getD u (-1)
 I : ∀ u ∈ x.L,y.I.getD u (-1) = x.I.getD u (-1)
 O : ∀ u ∈ x.L,x.O.getD u (-1) ≠ -1 → y.O.getD u (-1) = x.O.getD u (-1)
 O' : ∀ u ∈ x.L,x.O.getD u (-1) = -1 → y.O.getD u (-1) = -1 ∨ (x.m : Int) ≤ y.O.getD u (-1)
 m : x.m ≤ y.m
theorem Mono.refl (x : St) : Mono x x := ⟨⟨[],by simp,by simp⟩,fun _ _ => rfl,fun _ _ _ => rfl,fun _ _ h => .inl h,Nat.le_refl _⟩
theorem Mono.step {n : Nat} {x : St} (g : Good n x) {e : Ev} (h : quO n x e) : Mono x (x.step e) := by
 obtain ⟨h1,h2⟩ := h
 unfold St.step
 split
 ·rename_i hl
  rw [if_pos hl] at h2
  have hP : e.1 ∈ x.P := List.mem_of_getLast? h2
  rw [g.stk,List.mem_filter] at hP
  have hO : x.O.getD e.1 (-1) = -1 := by simpa using hP.2
  have hn := g.lt _ hP.1
  refine ⟨⟨[],by simp,by simp⟩,fun _ _ => rfl,?_,?_,Nat.le_succ _⟩ <;> dsimp only
  ·intro u hu hq
   rw [qDK]
   by_cases q : e.1 = u
   ·subst q;exact absurd hO hq
   ·rw [if_neg (fun z => q z.1)]
  ·intro u hu hq
   rw [qDK]
   by_cases q : e.1 = u
   ·rw [if_pos ⟨q,by rw [g.lO];exact hn⟩];right;omega
   ·rw [if_neg (fun z => q z.1)];exact .inl hq
 ·rename_i hl
  rw [if_neg hl] at h2
  have hI : ∀ u,(x.I.set e.1 (x.m : Int)).getD u (-1) = if e.1 = u then (x.m : Int) else x.I.getD u (-1) := by
   intro u
   rw [qDK]
   by_cases q : e.1 = u
   ·rw [if_pos q,if_pos ⟨q,by rw [g.lI];exact h2.1⟩]
   ·rw [if_neg q,if_neg (fun z => q z.1)]
  refine ⟨⟨[e.1],rfl,?_⟩,?_,fun _ _ _ => rfl,fun _ _ h => .inl h,Nat.le_succ _⟩ <;> dsimp only
  ·intro u hu
   simp at hu
   rw [hI,if_pos hu.symm];omega
  ·intro u hu
   rw [hI,if_neg (fun q : e.1 = u => h2.2 (q ▸ hu))]
theorem Mono.trans {x y z : St} (a : Mono x y) (b : Mono y z) : Mono x z := by
 obtain ⟨l,e1,h1⟩ := a.L
 obtain ⟨l',e2,h2⟩ := b.L
 have sub : ∀ u ∈ x.L,u ∈ y.L := fun u hu => by rw [e1];exact List.mem_append_left _ hu
 have hm := a.m
 refine ⟨⟨l ++ l',by rw [e2,e1,List.append_assoc],?_⟩,?_,?_,?_,Nat.le_trans a.m b.m⟩
 ·intro u hu
  rcases List.mem_append.1 hu with h | h
  ·rw [b.I u (by rw [e1];exact List.mem_append_right _ h)];exact h1 u h
  ·have := h2 u h;omega
 ·intro u hu;rw [b.I u (sub u hu),a.I u hu]
 ·intro u hu h
  have := a.O u hu h
  rw [b.O u (sub u hu) (by rw [this];exact h),this]
 ·intro u hu h
  rcases a.O' u hu h with q | q
  ·rcases b.O' u (sub u hu) q with r | r
   ·exact .inl r
   ·right;omega
  ·by_cases r : y.O.getD u (-1) = -1
   ·omega
   ·rw [b.O u (sub u hu) r];exact .inr q
theorem Mono.run {n : Nat} : ∀ {l : List Ev} {x : St},Good n x → qRU n x l → Mono x (x.run l) := by
 intro l
 induction l with
 | nil => intro x _ _;exact Mono.refl x
 | cons e l ih => intro x g h;exact (Mono.step g h.1).trans (ih (g.step h.1) h.2)
structure Done (n : Nat) (y : St) : Prop extends Good n y where
 P0 : y.P = []
theorem Done.o {n : Nat} {y : St} (g : Done n y) {u : Nat} (hu : u ∈ y.L) : y.O.getD u (-1) ≠ -1 := by
 intro h
 have : u ∈ y.P := by rw [g.stk,List.mem_filter];exact ⟨hu,by simpa using h⟩
 rw [g.P0] at this;cases this
def qf9 (D : Int) (S : Nat → Prop) (f : Nat → Int) : Prop := 0 ≤ D ∧ (∀ v,S v → f v ≤ D) ∧ (D = 0 ∨ ∃ v,S v ∧ D = f v)
theorem qf9.uniq {D D' : Int} {S : Nat → Prop} {f : Nat → Int} (h : qf9 D S f) (h' : qf9 D' S f) (hf : ∀ v,S v → 0 ≤ f v) : D = D' := by
 obtain ⟨a0,a1,a2⟩ := h
 obtain ⟨b0,b1,b2⟩ := h'
 rcases a2 with rfl | ⟨v,hv,rfl⟩
 ·rcases b2 with rfl | ⟨w,hw,rfl⟩
  ·rfl
  ·have := a1 w hw;omega
 ·have := b1 v hv
  rcases b2 with rfl | ⟨w,hw,rfl⟩
  ·have := hf v hv;omega
  ·have := a1 w hw;omega
def qYE (K : Nat → List Int) (n : Nat) : St := (st0 n).run (qf7 K n)
theorem qN2 (K : Nat → List Int) (n : Nat) : Done n (qYE K n) := ⟨(quJ n).run (qeY K n).1,(qeY K n).2⟩
theorem qZD {α : Type} (p : α → Bool) (l : List α) : l.length = (l.filter p).length + (l.filter fun u => !p u).length := by
 induction l with
 | nil => rfl
 | cons a l ih =>
  rw [List.filter_cons,List.filter_cons]
  cases p a <;> simp <;> omega
theorem qVJ {n : Nat} : ∀ {l : List Nat},l.Nodup → (∀ u ∈ l,u < n) → l.length ≤ n := by
 induction n with
 | zero =>
  intro l _ h
  cases l with
  | nil => exact Nat.le_refl _
  | cons a l => exact absurd (h a List.mem_cons_self) (by omega)
 | succ n ih =>
  intro l hn h
  have h1 := ih (l := l.filter fun u => !(u == n)) (hn.filter _) (fun u hu => by
   rw [List.mem_filter] at hu
   have := h u hu.1
   have h2 : ¬ u = n := by simpa using hu.2
   omega)
  have h2 : l.length ≤ (l.filter fun u => !(u == n)).length + 1 := by
   have e := qZD (fun u => u == n) l
   have h3 : (l.filter fun u => u == n).length ≤ 1 := by
    rw [← List.countP_eq_length_filter]
    exact List.nodup_iff_count.1 hn n
   omega
  omega
end Go.Vc

namespace Go.Vc
open Go.Proofs
set_option maxRecDepth 10000
set_option maxHeartbeats 4000000
def qAC (l : List qAG) (i : Nat) : List Int := (l.getD i qAB.dflt).2.2.2.2.2.2
end Go.Vc

namespace Go.Vc
open Go.Proofs
set_option maxRecDepth 10000
set_option maxHeartbeats 4000000
def fin (l : List qAG) : St := qYE (qAC l) l.length
def qCM (l : List Nat) : List Int := List.map (fun u : Nat => (u : Int)) l
theorem qaM (l : List Nat) (v : Nat) : qCM (l ++ [v]) = qCM l ++ [(v : Int)] := by unfold qCM;rw [List.map_append];rfl
def flat (x : St) : List (Int × Int) := (List.range x.I.length).map fun u => (x.I.getD u (-1),x.O.getD u (-1))
theorem qd3 {α : Type} {a b : α} (i n : Nat) (h : i < n) : (List.replicate i a ++ List.replicate (n - i) b).set i a = List.replicate (i + 1) a ++ List.replicate (n - (i + 1)) b := by
 rw [List.set_append_right _ _ (by simp),List.length_replicate,Nat.sub_self]
 obtain ⟨m,hm⟩ : ∃ m,n - i = m + 1 := ⟨n - i - 1,by omega⟩
 rw [hm,List.replicate_succ,List.set_cons_zero,show n - (i + 1) = m by omega,List.replicate_succ']
 simp
end Go.Vc

namespace Go.Vc
set_option autoImplicit false
def sI (I : List Int) : List Bool := I.map fun v => decide (0 ≤ v)
theorem qG7 (I : List Int) (k m : Nat) : sI (I.set k (m : Int)) = (sI I).set k true := by
 unfold sI;rw [List.map_set,decide_eq_true (by omega : (0 : Int) ≤ (m : Int))]
theorem ql8 (n : Nat) : sI (List.replicate n (-1)) = List.replicate n false := by
 unfold sI;rw [List.map_replicate];rfl
theorem qfL (I : List Int) (k : Nat) (h : k < I.length) : (sI I).getD k true = decide (0 ≤ I.getD k 0) := by
 unfold sI;simp [List.getD,h]
def dR (K : Nat → List Int) (x : St) (i j : Nat) : St := x.run (dfs K (sI x.I) i j x.m).1
variable {K : Nat → List Int}
theorem qN9 (x : St) (e : Ev) (l : List Ev) : x.run (e :: l) = (x.step e).run l := rfl
theorem qeM : ∀ (s : List Bool) (i j c : Nat) (x : St),sI x.I = s → x.m = c →
  sI (x.run (dfs K s i j c).1).I = (dfs K s i j c).2.1 ∧ (x.run (dfs K s i j c).1).m = (dfs K s i j c).2.2 := by
 refine qG2 (K := K) ?_ ?_ ?_
 ·intro s i j c h x hs hm
  rw [qDJ h]
  exact ⟨hs,by show x.m + 1 = c + 1;rw [hm]⟩
 ·intro s i j c h hk ih x hs hm
  rw [qDN h hk]
  exact ih x hs hm
 ·intro s i j c h hk i1 i2 x hs hm
  rw [qGK h hk]
  dsimp only
  rw [qN9,qLH]
  have a := i1 (x.step (((K i).getD j 0).toNat,(i : Int),c,false)) (by show sI (x.I.set _ (x.m : Int)) = _;rw [qG7,hs]) (by show x.m + 1 = c + 1;rw [hm])
  exact i2 _ a.1 a.2
theorem qX3 {x : St} {i j : Nat} (h : ¬ j < (K i).length) : dR K x i j = x.step (i,0,x.m,true) := by
 unfold dR;rw [qDJ h];rfl
theorem qYT {x : St} {i j : Nat} (h : j < (K i).length) (hk : okK (sI x.I) ((K i).getD j 0) = false) : dR K x i j = dR K x i (j + 1) := by
 unfold dR;rw [qDN h hk]
theorem qgL {x : St} {i j : Nat} (h : j < (K i).length) (hk : okK (sI x.I) ((K i).getD j 0) = true) :
    dR K x i j = dR K (dR K (x.step (((K i).getD j 0).toNat,(i : Int),x.m,false)) ((K i).getD j 0).toNat 0) i (j + 1) := by
  have hI : sI (x.step (((K i).getD j 0).toNat,(i : Int),x.m,false)).I = (sI x.I).set ((K i).getD j 0).toNat true := qG7 ..
  have hm : (x.step (((K i).getD j 0).toNat,(i : Int),x.m,false)).m = x.m + 1 := rfl
  have a := qeM (K := K) _ ((K i).getD j 0).toNat 0 _ _ hI hm
  have e1 : dR K (x.step (((K i).getD j 0).toNat,(i : Int),x.m,false)) ((K i).getD j 0).toNat 0 =
      (x.step (((K i).getD j 0).toNat,(i : Int),x.m,false)).run (dfs K ((sI x.I).set ((K i).getD j 0).toNat true) ((K i).getD j 0).toNat 0 (x.m + 1)).1 := by
    unfold dR;rw [hI,hm]
  rw [e1]
  generalize hy : (x.step (((K i).getD j 0).toNat,(i : Int),x.m,false)).run (dfs K ((sI x.I).set ((K i).getD j 0).toNat true) ((K i).getD j 0).toNat 0 (x.m + 1)).1 = y at *
  unfold dR
  rw [a.1,a.2,qGK h hk]
  dsimp only
  rw [qN9,qLH,hy]
theorem qmV {P : St → Nat → Nat → Prop} (he : ∀ x i j,¬ j < (K i).length → P x i j) (hb : ∀ x i j,j < (K i).length → okK (sI x.I) ((K i).getD j 0) = false → P x i (j + 1) → P x i j)
  (ho : ∀ x i j,j < (K i).length → okK (sI x.I) ((K i).getD j 0) = true → P (x.step (((K i).getD j 0).toNat,(i : Int),x.m,false)) ((K i).getD j 0).toNat 0 →
   P (dR K (x.step (((K i).getD j 0).toNat,(i : Int),x.m,false)) ((K i).getD j 0).toNat 0) i (j + 1) → P x i j) : ∀ x i j,P x i j := by
 have main : ∀ (s : List Bool) (i j c : Nat) (x : St),sI x.I = s → x.m = c → P x i j := by
  refine qG2 (K := K) ?_ ?_ ?_
  ·intro s i j c h x hs hm;exact he x i j h
  ·intro s i j c h hk ih x hs hm;subst hs;exact hb x i j h hk (ih x rfl hm)
  ·intro s i j c h hk i1 i2 x hs hm
   subst hs;subst hm
   have hI : sI (x.step (((K i).getD j 0).toNat,(i : Int),x.m,false)).I = (sI x.I).set ((K i).getD j 0).toNat true := qG7 ..
   have a := qeM (K := K) _ ((K i).getD j 0).toNat 0 (x.m + 1) (x.step (((K i).getD j 0).toNat,(i : Int),x.m,false)) hI rfl
   refine ho x i j h hk (i1 _ hI rfl) (i2 _ ?_ ?_)
   ·unfold dR;rw [hI];exact a.1
   ·unfold dR;rw [hI];exact a.2
 exact fun x i j => main _ i j _ x rfl rfl
theorem qe3 : ∀ (x : St) (i j : Nat),(dR K x i j).m + 2 * unseen (sI (dR K x i j).I) ≤ x.m + 2 * unseen (sI x.I) + 1 ∧ (dR K x i j).I.length = x.I.length ∧ (dR K x i j).O.length = x.O.length ∧
  (dR K x i j).L.length + x.m ≤ x.L.length + (dR K x i j).m ∧ unseen (sI (dR K x i j).I) ≤ unseen (sI x.I) := by
 refine qmV (K := K) ?_ ?_ ?_
 ·intro x i j h
  rw [qX3 h]
  refine ⟨?_,rfl,List.length_set ..,?_,Nat.le_refl _⟩
  ·show x.m + 1 + _ ≤ _;exact Nat.le_of_eq (by show x.m + 1 + 2 * unseen (sI x.I) = _;omega)
  ·show x.L.length + x.m ≤ x.L.length + (x.m + 1);omega
 ·intro x i j h hk ih
  rw [qYT h hk];exact ih
 ·intro x i j h hk i1 i2
  rw [qgL h hk]
  have hI : sI (x.step (((K i).getD j 0).toNat,(i : Int),x.m,false)).I = (sI x.I).set ((K i).getD j 0).toNat true := qG7 ..
  have hu := qBA (qBW hk).2.2
  have hm : (x.step (((K i).getD j 0).toNat,(i : Int),x.m,false)).m = x.m + 1 := rfl
  have hL : (x.step (((K i).getD j 0).toNat,(i : Int),x.m,false)).L.length = x.L.length + 1 := by
   show (x.L ++ [_]).length = _;simp
  have hIl : (x.step (((K i).getD j 0).toNat,(i : Int),x.m,false)).I.length = x.I.length := List.length_set ..
  have hOl : (x.step (((K i).getD j 0).toNat,(i : Int),x.m,false)).O.length = x.O.length := rfl
  rw [hI,hm,hL,hIl,hOl] at i1
  exact ⟨by omega,by omega,by omega,by omega,by omega⟩
def StE (x y : St) : Prop := x.L = y.L ∧ x.I = y.I ∧ x.O = y.O ∧ x.m = y.m
theorem StE.step {x y : St} (h : StE x y) {e e' : Ev} (h1 : e.1 = e'.1) (h2 : e.2.2.2 = e'.2.2.2) : StE (x.step e) (y.step e') := by
 obtain ⟨a,b,c,d⟩ := h
 unfold St.step
 rw [← h2]
 split
 ·exact ⟨a,b,by dsimp only;rw [c,d,h1],by dsimp only;rw [d]⟩
 ·exact ⟨by dsimp only;rw [a,h1],by dsimp only;rw [b,d,h1],c,by dsimp only;rw [d]⟩
theorem StE.run : ∀ {l : List Ev} {x y : St},StE x y → StE (x.run l) (y.run l) := by
 intro l
 induction l with
 | nil => intro x y h;exact h
 | cons e l ih => intro x y h;exact ih (h.step rfl rfl)
theorem StE.dR {x y : St} (h : StE x y) (i j : Nat) : StE (dR K x i j) (dR K y i j) := by
 unfold Go.Vc.dR
 rw [← h.2.1, ← h.2.2.2]
 exact h.run
def wkS (K : Nat → List Int) (L : List Nat) (I O : List Int) (i m : Nat) : St := dR K (({ L := L,P := [],I := I,O := O,m := m } : St).step (i,0,m,false)) i 0
theorem qi4 (K : Nat → List Int) (n : Nat) (h : 0 < n) : StE (qYE K n) (wkS K [] (List.replicate n (-1)) (List.replicate n (-1)) 0 0) := by
 have e : qYE K n = dR K ((st0 n).step (0, -1,0,false)) 0 0 := by
  unfold qYE qf7 dR
  rw [if_neg (by omega)]
  have e2 : sI ((st0 n).step (0, -1,0,false)).I = (List.replicate n false).set 0 true := by
   show sI ((List.replicate n (-1)).set 0 ((0 : Nat) : Int)) = _
   rw [qG7,ql8]
  have e3 : ((st0 n).step (0, -1,0,false)).m = 1 := rfl
  rw [e2,e3,qN9,qd5,qd5,List.append_nil]
 rw [e]
 unfold wkS
 exact (StE.step (x := st0 n) ⟨rfl,rfl,rfl,rfl⟩ rfl rfl).dR 0 0
end Go.Vc

namespace Go.Vc
open Go.Proofs
set_option maxRecDepth 10000
set_option maxHeartbeats 4000000
def qk1 (t : List qAG) (L : List Nat) (I O : List Int) (k : Int) (m : Nat) : Prop :=
 t.length ≤ 45 ∧ I.length = t.length ∧ O.length = t.length ∧ (0 ≤ k ∧ k < t.length) ∧ m + 2 * unseen (sI (I.set k.toNat (m : Int))) + 2 ≤ 200 ∧ L.length ≤ m
theorem qWR {I : List Int} {n : Nat} (hI : I.length = n) (k : Int) : (decide (k ≥ 0) && decide (k < (n : Int)) && decide (I.getD k.toNat 0 < 0)) = okK (sI I) k := by
  unfold okK
  by_cases h1 : k < 0
  · rw [decide_eq_false (by omega : ¬ k ≥ 0)];rfl
  · rw [decide_eq_true (by omega : k ≥ 0)]
    by_cases h2 : k < (n : Int)
    · rw [decide_eq_true h2,qfL I k.toNat (by omega)]
      by_cases h3 : I.getD k.toNat 0 < 0
      · rw [decide_eq_true h3,decide_eq_false (by omega : ¬ 0 ≤ I.getD k.toNat 0)];rfl
      · rw [decide_eq_false h3,decide_eq_true (by omega : 0 ≤ I.getD k.toNat 0)];rfl
    · have : (sI I).getD k.toNat true = true := by
        rw [List.getD_eq_getElem?_getD,List.getElem?_eq_none (by unfold sI;rw [List.length_map];omega)];rfl
      rw [decide_eq_false h2,this];rfl
theorem qkJ (N : Nat) : ∀ (t : List qAG) (L : List Nat) (I O : List Int) (k : Int) (m : Nat),
  FnM BB 71 [.agg [.rd qAB t],.int .i64 k,.own 0,.own 1,.own 2,.int .i64 m] [(0,.own qAI (qCM L)),(1,.ow qAI I),(2,.ow qAI O)]
   (qk1 t L I O k m ∧ unseen (sI (I.set k.toNat (m : Int))) < N)
   (.tup [.own 0,.int .i64 ((wkS (qAC t) L I O k.toNat m).m : Int)]) [(0,.own qAI (qCM (wkS (qAC t) L I O k.toNat m).L)),(1,.ow qAI (wkS (qAC t) L I O k.toNat m).I),(2,.ow qAI (wkS (qAC t) L I O k.toNat m).O)] := by
 induction N with
 | zero => intro t L I O k m;exact ⟨Tryz.call71,fun h => absurd h.2 (Nat.not_lt_zero _)⟩
 | succ N ih =>
  intro t L I O k m
  refine FnM.intro (N := 79) [0,1,2,3,4,5,6,12,13,14,15,34,61] [] 3 Tryz.call71 Tryz.func71 rfl rfl (by kernel_rfl) (fun hpre => ?_)
  repeat' ((conv => whnf);first|exact qR|intro _|refine WA ?_ ?_|refine WF ?_|refine W1 rfl ?_ ?_|refine W2 rfl ?_ ?_|refine W3 rfl ?_ ?_|refine W4 ?_ ?_|refine W5 rfl ?_ ?_|refine W6 ?_ ?_|refine WN ?_|refine X1 (W1 rfl ?_ ?_)|refine X1 (W2 rfl ?_ ?_)|refine X2 (W7 rfl ?_ ?_)|refine X3 (W7 rfl ?_ ?_)|refine X4 (W7 rfl ?_ ?_)|refine X5 (W7 rfl ?_ ?_))
  all_goals (try (conv => whnf))
  all_goals (try first|exact obA|refine Ob.mk ?_)
  all_goals (obtain ⟨⟨ht,hIl,hOl,hk,hm,hL⟩,hN⟩ := hpre)
  ·have : (qCM L).length = L.length := by unfold qCM;simp
   rw [this,List.length_singleton]
   simp only [bytes3,qXX]
   omega
  ·omega
  ·omega
  ·constructor <;> omega
  generalize hx0 : (({ L := L,P := [],I := I,O := O,m := m } : St).step (k.toNat,0,m,false)) = x0
  have hxI : x0.I = I.set k.toNat (m : Int) := by rw [← hx0];rfl
  have hxL : x0.L = L ++ [k.toNat] := by rw [← hx0];rfl
  have hxO : x0.O = O := by rw [← hx0];rfl
  have hxm : x0.m = m + 1 := by rw [← hx0];rfl
  have hwk : wkS (qAC t) L I O k.toNat m = dR (qAC t) x0 k.toNat 0 := by unfold wkS;rw [hx0]
  rw [hwk]
  refine LoopStop.mk (α := St × Nat) (fun a => [(5,.int .i64 a.1.m),(14,.int .i64 a.2)]) (fun a => [(0,.own qAI (qCM a.1.L)),(1,.ow qAI a.1.I),(2,.ow qAI a.1.O)]) 60
   (fun a => dR (qAC t) a.1 k.toNat a.2 = dR (qAC t) x0 k.toNat 0 ∧ a.1.I.length = t.length ∧ a.1.O.length = t.length ∧ a.1.m + 2 * unseen (sI a.1.I) + 1 ≤ 200 ∧ a.1.L.length ≤ a.1.m ∧ unseen (sI a.1.I) ≤ N ∧ a.2 ≤ (qAC t k.toNat).length)
   (fun a => (qAC t k.toNat).length - a.2) (x0,0) ⟨rfl,by rw [hxI,List.length_set];exact hIl,by rw [hxO];exact hOl,by rw [hxI,hxm];omega,by rw [hxL,hxm,List.length_append,List.length_singleton];omega,by rw [hxI];omega,Nat.zero_le _⟩ ?_ (fun a ha => ?_)
  ·repeat' ((conv => whnf);first|exact qR|intro _|refine WA ?_ ?_|refine WF ?_|refine W1 rfl ?_ ?_|refine W2 rfl ?_ ?_|refine W3 rfl ?_ ?_|refine W4 ?_ ?_|refine W5 rfl ?_ ?_|refine W6 ?_ ?_|refine WN ?_|refine X1 (W1 rfl ?_ ?_)|refine X1 (W2 rfl ?_ ?_)|refine X2 (W7 rfl ?_ ?_)|refine X3 (W7 rfl ?_ ?_)|refine X4 (W7 rfl ?_ ?_)|refine X5 (W7 rfl ?_ ?_))
   all_goals (try (conv => whnf))
   all_goals (try first|exact obA|refine Ob.mk ?_)
   ·show (m : Int) + 1 = (x0.m : Int);rw [hxm];omega
   ·show Chunk.own qAI _ = Chunk.own qAI (qCM x0.L)
    rw [hxL,qaM,Int.toNat_of_nonneg hk.1]
   ·show Chunk.ow qAI _ = Chunk.ow qAI x0.I
    rw [hxI]
   ·show Chunk.ow qAI _ = Chunk.ow qAI x0.O
    rw [hxO]
  ·obtain ⟨x,j⟩ := a
   dsimp only at ha ⊢
   obtain ⟨hD,hI2,hO2,hm2,hL2,hu2,hj2⟩ := ha
   repeat' ((conv => whnf);first|exact qR|intro _|refine WA ?_ ?_|refine WF ?_|refine W1 rfl ?_ ?_|refine W2 rfl ?_ ?_|refine W3 rfl ?_ ?_|refine W4 ?_ ?_|refine W5 rfl ?_ ?_|refine W6 ?_ ?_|refine WN ?_|refine X1 (W1 rfl ?_ ?_)|refine X1 (W2 rfl ?_ ?_)|refine X2 (W7 rfl ?_ ?_)|refine X3 (W7 rfl ?_ ?_)|refine X4 (W7 rfl ?_ ?_)|refine X5 (W7 rfl ?_ ?_))
   all_goals (try (conv => whnf))
   all_goals (try first|exact obA|refine Ob.mk ?_)
   all_goals (try simp only [Int.toNat_natCast] at *)
   ·rename_i h1 h2 h3
    have hc : okK (sI x.I) ((qAC t k.toNat).getD j 0) = true := by rw [← qWR hI2];exact h3
    have hks := qBW hc
    have hls : (sI x.I).length = t.length := by unfold sI;rw [List.length_map];exact hI2
    have hu := qBA hks.2.2
    rw [← qG7 x.I ((qAC t k.toNat).getD j 0).toNat x.m] at hu
    show qk1 t x.L x.I x.O ((qAC t k.toNat).getD j 0) x.m ∧ unseen (sI (x.I.set ((qAC t k.toNat).getD j 0).toNat (x.m : Int))) < N
    exact ⟨⟨ht,hI2,hO2,⟨hks.1,by omega⟩,by omega,hL2⟩,by omega⟩
   ·rename_i h1 h2 h3
    have hj : j < (qAC t k.toNat).length := by have h := of_decide_eq_true h2;exact Int.ofNat_lt.mp h
    have hc : okK (sI x.I) ((qAC t k.toNat).getD j 0) = true := by rw [← qWR hI2];exact h3
    rw [qgL hj hc] at hD
    have hks := qBW hc
    have hu := qBA hks.2.2
    rw [← qG7 x.I ((qAC t k.toNat).getD j 0).toNat x.m] at hu
    have hb := qe3 (K := qAC t) (x.step (((qAC t k.toNat).getD j 0).toNat,(k.toNat : Int),x.m,false)) ((qAC t k.toNat).getD j 0).toNat 0
    have e1 : (x.step (((qAC t k.toNat).getD j 0).toNat,(k.toNat : Int),x.m,false)).m = x.m + 1 := rfl
    have e2 : (x.step (((qAC t k.toNat).getD j 0).toNat,(k.toNat : Int),x.m,false)).I = x.I.set ((qAC t k.toNat).getD j 0).toNat (x.m : Int) := rfl
    have e3 : (x.step (((qAC t k.toNat).getD j 0).toNat,(k.toNat : Int),x.m,false)).O = x.O := rfl
    have e4 : (x.step (((qAC t k.toNat).getD j 0).toNat,(k.toNat : Int),x.m,false)).L.length = x.L.length + 1 := by show (x.L ++ [_]).length = _;simp
    have hE : StE (wkS (qAC t) x.L x.I x.O ((qAC t k.toNat).getD j 0).toNat x.m) (dR (qAC t) (x.step (((qAC t k.toNat).getD j 0).toNat,(k.toNat : Int),x.m,false)) ((qAC t k.toNat).getD j 0).toNat 0) := by
     unfold wkS
     exact StE.dR (StE.step (x := { L := x.L,P := [],I := x.I,O := x.O,m := x.m }) (y := x) ⟨rfl,rfl,rfl,rfl⟩ rfl rfl) _ _
    rw [e1,e2,e3,e4,List.length_set] at hb
    generalize dR (qAC t) (x.step (((qAC t k.toNat).getD j 0).toNat,(k.toNat : Int),x.m,false)) ((qAC t k.toNat).getD j 0).toNat 0 = y at *
    refine Rnd.mk ⟨(y,j + 1),⟨hD,by show y.I.length = _;omega,by show y.O.length = _;omega,by show y.m + 2 * unseen (sI y.I) + 1 ≤ 200;omega,by show y.L.length ≤ y.m;omega,by show unseen (sI y.I) ≤ N;omega,by show j + 1 ≤ _;omega⟩,by show _ - (j + 1) < _;omega,?_⟩
    repeat' ((conv => whnf);first|exact qR|intro _|refine WA ?_ ?_|refine WF ?_|refine W1 rfl ?_ ?_|refine W2 rfl ?_ ?_|refine W3 rfl ?_ ?_|refine W4 ?_ ?_|refine W5 rfl ?_ ?_|refine W6 ?_ ?_|refine WN ?_|refine X1 (W1 rfl ?_ ?_)|refine X1 (W2 rfl ?_ ?_)|refine X2 (W7 rfl ?_ ?_)|refine X3 (W7 rfl ?_ ?_)|refine X4 (W7 rfl ?_ ?_)|refine X5 (W7 rfl ?_ ?_))
    all_goals (try (conv => whnf))
    all_goals (try first|exact obA|refine Ob.mk ?_)
    ·show ((wkS (qAC t) x.L x.I x.O ((qAC t k.toNat).getD j 0).toNat x.m).m : Int) = (y.m : Int)
     rw [hE.2.2.2]
    all_goals (try rfl)
    ·show Chunk.own qAI (qCM (wkS (qAC t) x.L x.I x.O ((qAC t k.toNat).getD j 0).toNat x.m).L) = Chunk.own qAI (qCM y.L)
     rw [hE.1]
    ·show Chunk.ow qAI (wkS (qAC t) x.L x.I x.O ((qAC t k.toNat).getD j 0).toNat x.m).I = Chunk.ow qAI y.I
     rw [hE.2.1]
    ·show Chunk.ow qAI (wkS (qAC t) x.L x.I x.O ((qAC t k.toNat).getD j 0).toNat x.m).O = Chunk.ow qAI y.O
     rw [hE.2.2.1]
   ·rename_i h1 h2 h3
    have hj : j < (qAC t k.toNat).length := by have h := of_decide_eq_true h2;exact Int.ofNat_lt.mp h
    have hc : okK (sI x.I) ((qAC t k.toNat).getD j 0) = false := by rw [← qWR hI2];exact h3
    rw [qYT hj hc] at hD
    refine Rnd.mk ⟨(x,j + 1),⟨hD,hI2,hO2,hm2,hL2,hu2,by show j + 1 ≤ _;omega⟩,by show _ - (j + 1) < _;omega,?_⟩
    all_goals exact vcA
   all_goals (rename_i h1 h2)
   all_goals (have hj : ¬ j < (qAC t k.toNat).length := by have h := of_decide_eq_false h2;exact fun q => h (Int.ofNat_lt.mpr q))
   all_goals (rw [qX3 hj] at hD;rw [← hD])
   ·rfl
   ·rfl
   ·rfl
   ·rfl
instance hWalk (t : List qAG) (L : List Nat) (I O : List Int) (k : Int) (m : Nat) :
  FnM BB 71 [.agg [.rd qAB t],.int .i64 k,.own 0,.own 1,.own 2,.int .i64 m] [(0,.own qAI (qCM L)),(1,.ow qAI I),(2,.ow qAI O)]
   (qk1 t L I O k m)
   (.tup [.own 0,.int .i64 ((wkS (qAC t) L I O k.toNat m).m : Int)]) [(0,.own qAI (qCM (wkS (qAC t) L I O k.toNat m).L)),(1,.ow qAI (wkS (qAC t) L I O k.toNat m).I),(2,.ow qAI (wkS (qAC t) L I O k.toNat m).O)] :=
 have h := qkJ (unseen (sI (I.set k.toNat (m : Int))) + 1) t L I O k m
 ⟨h.call,fun hp => h.ok ⟨hp,Nat.lt_succ_self _⟩⟩
end Go.Vc

namespace Go.Vc
open Go.Proofs
set_option maxRecDepth 10000
set_option maxHeartbeats 4000000
instance hWalk0 (t : List qAG) (I O : List Int) :
  FnM BB 71 [.agg [.rd qAB t],.int .i64 0,.nils,.own 0,.own 1,.int .i64 0] [(0,.ow qAI I),(1,.ow qAI O)]
   (qk1 t [] I O 0 0)
   (.tup [.own 2,.int .i64 ((wkS (qAC t) [] I O 0 0).m : Int)]) [(0,.ow qAI (wkS (qAC t) [] I O 0 0).I),(1,.ow qAI (wkS (qAC t) [] I O 0 0).O),(2,.own qAI (qCM (wkS (qAC t) [] I O 0 0).L))] := by
 refine FnM.intro (N := 79) [0,1,2,3,4,5,6,12,13,14,15,34,61] [] 2 Tryz.call71 Tryz.func71 rfl rfl (by kernel_rfl) (fun hpre => ?_)
 repeat' ((conv => whnf);first|exact qR|intro _|refine WA ?_ ?_|refine WF ?_|refine W1 rfl ?_ ?_|refine W2 rfl ?_ ?_|refine W3 rfl ?_ ?_|refine W4 ?_ ?_|refine W5 rfl ?_ ?_|refine W6 ?_ ?_|refine WN ?_|refine X1 (W1 rfl ?_ ?_)|refine X1 (W2 rfl ?_ ?_)|refine X2 (W7 rfl ?_ ?_)|refine X3 (W7 rfl ?_ ?_)|refine X4 (W7 rfl ?_ ?_)|refine X5 (W7 rfl ?_ ?_))
 all_goals (try (conv => whnf))
 all_goals (try first|exact obA|refine Ob.mk ?_)
 all_goals (obtain ⟨ht,hIl,hOl,hk,hm,hL⟩ := hpre)
 ·show 0 ≤ (0 : Int) ∧ (0 : Int) < (I.length : Int);omega
 ·show 0 < I.length;omega
 have hk0 : (0 : Int).toNat = 0 := rfl
 generalize hx0 : (({ L := [],P := [],I := I,O := O,m := 0 } : St).step (0,0,0,false)) = x0
 have hxI : x0.I = I.set 0 0 := by rw [← hx0];rfl
 have hxL : x0.L = [0] := by rw [← hx0];rfl
 have hxO : x0.O = O := by rw [← hx0];rfl
 have hxm : x0.m = 1 := by rw [← hx0];rfl
 have hwk : wkS (qAC t) [] I O 0 0 = dR (qAC t) x0 0 0 := by unfold wkS;rw [hx0]
 rw [hwk]
 have hm : 2 * unseen (sI (I.set 0 0)) + 2 ≤ 200 := by have h : 0 + 2 * unseen (sI (I.set (0 : Int).toNat ((0 : Nat) : Int))) + 2 ≤ 200 := hm;have e : I.set (0 : Int).toNat ((0 : Nat) : Int) = I.set 0 0 := rfl;rw [e] at h;omega
 refine LoopStop.mk (α := St × Nat) (fun a => [(5,.int .i64 a.1.m),(14,.int .i64 a.2)]) (fun a => [(4,.own qAI (qCM a.1.L)),(0,.ow qAI a.1.I),(1,.ow qAI a.1.O)]) 60
  (fun a => dR (qAC t) a.1 0 a.2 = dR (qAC t) x0 0 0 ∧ a.1.I.length = t.length ∧ a.1.O.length = t.length ∧ a.1.m + 2 * unseen (sI a.1.I) + 1 ≤ 200 ∧ a.1.L.length ≤ a.1.m ∧ a.2 ≤ (qAC t 0).length)
  (fun a => (qAC t 0).length - a.2) (x0,0) ⟨rfl,by rw [hxI,List.length_set];exact hIl,by rw [hxO];exact hOl,by rw [hxI,hxm];omega,by rw [hxL,hxm];decide,Nat.zero_le _⟩ ?_ (fun a ha => ?_)
 ·repeat' ((conv => whnf);first|exact qR|intro _|refine WA ?_ ?_|refine WF ?_|refine W1 rfl ?_ ?_|refine W2 rfl ?_ ?_|refine W3 rfl ?_ ?_|refine W4 ?_ ?_|refine W5 rfl ?_ ?_|refine W6 ?_ ?_|refine WN ?_|refine X1 (W1 rfl ?_ ?_)|refine X1 (W2 rfl ?_ ?_)|refine X2 (W7 rfl ?_ ?_)|refine X3 (W7 rfl ?_ ?_)|refine X4 (W7 rfl ?_ ?_)|refine X5 (W7 rfl ?_ ?_))
  all_goals (try (conv => whnf))
  all_goals (try first|exact obA|refine Ob.mk ?_)
  ·show _ = (x0.m : Int);rw [hxm];rfl
  ·show Chunk.own qAI _ = Chunk.own qAI (qCM x0.L)
   rw [hxL];rfl
  ·show Chunk.ow qAI _ = Chunk.ow qAI x0.I
   rw [hxI];rfl
  ·show Chunk.ow qAI _ = Chunk.ow qAI x0.O
   rw [hxO]
 ·obtain ⟨x,j⟩ := a
  dsimp only at ha ⊢
  obtain ⟨hD,hI2,hO2,hm2,hL2,hj2⟩ := ha
  repeat' ((conv => whnf);first|exact qR|intro _|refine WA ?_ ?_|refine WF ?_|refine W1 rfl ?_ ?_|refine W2 rfl ?_ ?_|refine W3 rfl ?_ ?_|refine W4 ?_ ?_|refine W5 rfl ?_ ?_|refine W6 ?_ ?_|refine WN ?_|refine X1 (W1 rfl ?_ ?_)|refine X1 (W2 rfl ?_ ?_)|refine X2 (W7 rfl ?_ ?_)|refine X3 (W7 rfl ?_ ?_)|refine X4 (W7 rfl ?_ ?_)|refine X5 (W7 rfl ?_ ?_))
  all_goals (try (conv => whnf))
  all_goals (try first|exact obA|refine Ob.mk ?_)
  all_goals (try simp only [Int.toNat_natCast] at *)
  ·rename_i h1 h2 h3
   have hc : okK (sI x.I) ((qAC t 0).getD j 0) = true := by rw [← qWR hI2];exact h3
   have hks := qBW hc
   have hls : (sI x.I).length = t.length := by unfold sI;rw [List.length_map];exact hI2
   have hu := qBA hks.2.2
   rw [← qG7 x.I ((qAC t 0).getD j 0).toNat x.m] at hu
   show qk1 t x.L x.I x.O ((qAC t 0).getD j 0) x.m
   exact ⟨ht,hI2,hO2,⟨hks.1,by omega⟩,by omega,hL2⟩
  ·rename_i h1 h2 h3
   have hj : j < (qAC t 0).length := by have h := of_decide_eq_true h2;exact Int.ofNat_lt.mp h
   have hc : okK (sI x.I) ((qAC t 0).getD j 0) = true := by rw [← qWR hI2];exact h3
   rw [qgL hj hc] at hD
   have hks := qBW hc
   have hu := qBA hks.2.2
   rw [← qG7 x.I ((qAC t 0).getD j 0).toNat x.m] at hu
   have hb := qe3 (K := qAC t) (x.step (((qAC t 0).getD j 0).toNat,(0 : Int),x.m,false)) ((qAC t 0).getD j 0).toNat 0
   have e1 : (x.step (((qAC t 0).getD j 0).toNat,(0 : Int),x.m,false)).m = x.m + 1 := rfl
   have e2 : (x.step (((qAC t 0).getD j 0).toNat,(0 : Int),x.m,false)).I = x.I.set ((qAC t 0).getD j 0).toNat (x.m : Int) := rfl
   have e3 : (x.step (((qAC t 0).getD j 0).toNat,(0 : Int),x.m,false)).O = x.O := rfl
   have e4 : (x.step (((qAC t 0).getD j 0).toNat,(0 : Int),x.m,false)).L.length = x.L.length + 1 := by show (x.L ++ [_]).length = _;simp
   have hE : StE (wkS (qAC t) x.L x.I x.O ((qAC t 0).getD j 0).toNat x.m) (dR (qAC t) (x.step (((qAC t 0).getD j 0).toNat,(0 : Int),x.m,false)) ((qAC t 0).getD j 0).toNat 0) := by
    unfold wkS
    exact StE.dR (StE.step (x := { L := x.L,P := [],I := x.I,O := x.O,m := x.m }) (y := x) ⟨rfl,rfl,rfl,rfl⟩ rfl rfl) _ _
   rw [e1,e2,e3,e4,List.length_set] at hb
   generalize dR (qAC t) (x.step (((qAC t 0).getD j 0).toNat,(0 : Int),x.m,false)) ((qAC t 0).getD j 0).toNat 0 = y at *
   refine Rnd.mk ⟨(y,j + 1),⟨hD,by show y.I.length = _;omega,by show y.O.length = _;omega,by show y.m + 2 * unseen (sI y.I) + 1 ≤ 200;omega,by show y.L.length ≤ y.m;omega,by show j + 1 ≤ _;omega⟩,by show _ - (j + 1) < _;omega,?_⟩
   repeat' ((conv => whnf);first|exact qR|intro _|refine WA ?_ ?_|refine WF ?_|refine W1 rfl ?_ ?_|refine W2 rfl ?_ ?_|refine W3 rfl ?_ ?_|refine W4 ?_ ?_|refine W5 rfl ?_ ?_|refine W6 ?_ ?_|refine WN ?_|refine X1 (W1 rfl ?_ ?_)|refine X1 (W2 rfl ?_ ?_)|refine X2 (W7 rfl ?_ ?_)|refine X3 (W7 rfl ?_ ?_)|refine X4 (W7 rfl ?_ ?_)|refine X5 (W7 rfl ?_ ?_))
   all_goals (try (conv => whnf))
   all_goals (try first|exact obA|refine Ob.mk ?_)
   ·show ((wkS (qAC t) x.L x.I x.O ((qAC t 0).getD j 0).toNat x.m).m : Int) = (y.m : Int)
    rw [hE.2.2.2]
   all_goals (try rfl)
   ·show Chunk.own qAI (qCM (wkS (qAC t) x.L x.I x.O ((qAC t 0).getD j 0).toNat x.m).L) = Chunk.own qAI (qCM y.L)
    rw [hE.1]
   ·show Chunk.ow qAI (wkS (qAC t) x.L x.I x.O ((qAC t 0).getD j 0).toNat x.m).I = Chunk.ow qAI y.I
    rw [hE.2.1]
   ·show Chunk.ow qAI (wkS (qAC t) x.L x.I x.O ((qAC t 0).getD j 0).toNat x.m).O = Chunk.ow qAI y.O
    rw [hE.2.2.1]
  ·rename_i h1 h2 h3
   have hj : j < (qAC t 0).length := by have h := of_decide_eq_true h2;exact Int.ofNat_lt.mp h
   have hc : okK (sI x.I) ((qAC t 0).getD j 0) = false := by rw [← qWR hI2];exact h3
   rw [qYT hj hc] at hD
   refine Rnd.mk ⟨(x,j + 1),⟨hD,hI2,hO2,hm2,hL2,by show j + 1 ≤ _;omega⟩,by show _ - (j + 1) < _;omega,?_⟩
   all_goals exact vcA
  all_goals (rename_i h1 h2)
  all_goals (have hj : ¬ j < (qAC t 0).length := by have h := of_decide_eq_false h2;exact fun q => h (Int.ofNat_lt.mpr q))
  all_goals (rw [qX3 hj] at hD;rw [← hD])
  ·rfl
  ·rfl
  ·rfl
  ·rfl
theorem qVW (s : List Bool) : unseen s ≤ s.length := by unfold unseen;exact List.count_le_length
instance hAll (l : List qAG) : Fn BB 42 [.agg [.rd qAB l]] (l.length ≤ 45) (.tup [.rd qAI (qCM (fin l).L),.rd qAI (fin l).I,.rd qAI (fin l).O]) := by
 refine Fn.intro (N := 42) [0,1,2,3,4,5,6,7,8,20,31] [(1,[0,0,0,6,0,0,0,6,6,6]),(2000007,[1,2])] Tryz.call42 Tryz.func42 rfl rfl (by kernel_rfl) (fun hpre => ?_)
 repeat' ((conv => whnf);first|exact qR|intro _|refine WA ?_ ?_|refine WF ?_|refine W1 rfl ?_ ?_|refine W2 rfl ?_ ?_|refine W3 rfl ?_ ?_|refine W4 ?_ ?_|refine W5 rfl ?_ ?_|refine W6 ?_ ?_|refine WN ?_|refine X1 (W1 rfl ?_ ?_)|refine X1 (W2 rfl ?_ ?_)|refine X2 (W7 rfl ?_ ?_)|refine X3 (W7 rfl ?_ ?_)|refine X4 (W7 rfl ?_ ?_)|refine X5 (W7 rfl ?_ ?_))
 all_goals (try (conv => whnf))
 all_goals (try first|exact obA|refine Ob.mk ?_)
 all_goals (try simp only [bytes3,qXX] at *)
 all_goals (try omega)
 all_goals (rw [show ((l.length : Int)).toNat = l.length by omega])
 refine LoopStop.mk (α := Nat) (fun i => [(7,.int .i64 i)]) (fun i => [(1,.own qAI (List.replicate i (-1 : Int) ++ List.replicate (l.length - i) (0 : Int))),(2,.own qAI (List.replicate i (-1 : Int) ++ List.replicate (l.length - i) (0 : Int)))]) 40 (fun i => i ≤ l.length) (fun i => l.length - i) 0 (Nat.zero_le _) ?_ (fun i hi => ?_)
 ·all_goals exact vcA
 ·have hrl : (List.replicate i (-1 : Int) ++ List.replicate (l.length - i) (0 : Int)).length = l.length := by simp;omega
  repeat' ((conv => whnf);first|exact qR|intro _|refine WA ?_ ?_|refine WF ?_|refine W1 rfl ?_ ?_|refine W2 rfl ?_ ?_|refine W3 rfl ?_ ?_|refine W4 ?_ ?_|refine W5 rfl ?_ ?_|refine W6 ?_ ?_|refine WN ?_|refine X1 (W1 rfl ?_ ?_)|refine X1 (W2 rfl ?_ ?_)|refine X2 (W7 rfl ?_ ?_)|refine X3 (W7 rfl ?_ ?_)|refine X4 (W7 rfl ?_ ?_)|refine X5 (W7 rfl ?_ ?_))
  all_goals (try (conv => whnf))
  all_goals (try first|exact obA|refine Ob.mk ?_)
  all_goals (try simp only [Int.toNat_natCast] at *)
  all_goals (try rw [hrl] at *)
  all_goals (try (have hlt : i < l.length := by have h := of_decide_eq_true ‹decide ((i : Int) < (l.length : Int)) = true›;omega))
  all_goals (try (have hin : i = l.length := by have h := of_decide_eq_false ‹decide ((i : Int) < (l.length : Int)) = false›;omega))
  ·refine Rnd.mk ⟨i + 1,by omega,by omega,?_⟩
   repeat' ((conv => whnf);first|exact qR|intro _|refine WA ?_ ?_|refine WF ?_|refine W1 rfl ?_ ?_|refine W2 rfl ?_ ?_|refine W3 rfl ?_ ?_|refine W4 ?_ ?_|refine W5 rfl ?_ ?_|refine W6 ?_ ?_|refine WN ?_|refine X1 (W1 rfl ?_ ?_)|refine X1 (W2 rfl ?_ ?_)|refine X2 (W7 rfl ?_ ?_)|refine X3 (W7 rfl ?_ ?_)|refine X4 (W7 rfl ?_ ?_)|refine X5 (W7 rfl ?_ ?_))
   all_goals (try (conv => whnf))
   all_goals (try first|exact obA|refine Ob.mk ?_)
   all_goals (try rfl)
   all_goals (rw [qd3 i l.length hlt])
  all_goals (subst hin;clear hrl)
  all_goals (try simp only [Nat.sub_self,List.replicate_zero,List.append_nil] at *)
  all_goals (try (have hpos : 0 < l.length := by have h := of_decide_eq_true ‹decide ((l.length : Int) > 0) = true›;omega))
  all_goals (try (have hE := qi4 (qAC l) l.length hpos))
  ·have hu := qVW (sI ((List.replicate l.length (-1 : Int)).set (0 : Int).toNat ((0 : Nat) : Int)))
   have hul : (sI ((List.replicate l.length (-1 : Int)).set (0 : Int).toNat ((0 : Nat) : Int))).length = l.length := by unfold sI;simp
   exact ⟨hpre,by simp,by simp,⟨by omega,by omega⟩,by omega,Nat.le_refl _⟩
  ·rw [← hE.1];rfl
  ·rw [← hE.2.1];rfl
  ·rw [← hE.2.2.1];rfl
  all_goals (have hz : l.length = 0 := by have h := of_decide_eq_false ‹decide ((l.length : Int) > 0) = false›;omega)
  all_goals (have e : fin l = st0 l.length := by unfold fin qYE qf7;rw [if_pos hz];rfl)
  all_goals (rw [e])
  all_goals rfl
instance hList (l : List qAG) : Fn BB 18 [.agg [.rd qAB l]] (l.length ≤ 45) (.rd qAI (qCM (fin l).L)) := by
 refine Fn.intro (N := 13) [0,1,2,3] [] Tryz.call18 Tryz.func18 rfl rfl (by kernel_rfl) (fun hpre => ?_)
 repeat' ((conv => whnf);first|exact qR|intro _|refine WA ?_ ?_|refine WF ?_|refine W1 rfl ?_ ?_|refine W2 rfl ?_ ?_|refine W3 rfl ?_ ?_|refine W4 ?_ ?_|refine W5 rfl ?_ ?_|refine W6 ?_ ?_|refine WN ?_|refine X1 (W1 rfl ?_ ?_)|refine X1 (W2 rfl ?_ ?_)|refine X2 (W7 rfl ?_ ?_)|refine X3 (W7 rfl ?_ ?_)|refine X4 (W7 rfl ?_ ?_)|refine X5 (W7 rfl ?_ ?_))
 all_goals (try (conv => whnf))
 all_goals (try first|exact obA|refine Ob.mk ?_)
 all_goals (first | exact hpre | rfl)
instance hMarks (l : List qAG) : Fn BB 64 [.agg [.rd qAB l]] (l.length ≤ 45) (.tup [.rd qAI (fin l).I,.rd qAI (fin l).O]) := by
 refine Fn.intro (N := 15) [0,1,2,3,5,6] [] Tryz.call64 Tryz.func64 rfl rfl (by kernel_rfl) (fun hpre => ?_)
 repeat' ((conv => whnf);first|exact qR|intro _|refine WA ?_ ?_|refine WF ?_|refine W1 rfl ?_ ?_|refine W2 rfl ?_ ?_|refine W3 rfl ?_ ?_|refine W4 ?_ ?_|refine W5 rfl ?_ ?_|refine W6 ?_ ?_|refine WN ?_|refine X1 (W1 rfl ?_ ?_)|refine X1 (W2 rfl ?_ ?_)|refine X2 (W7 rfl ?_ ?_)|refine X3 (W7 rfl ?_ ?_)|refine X4 (W7 rfl ?_ ?_)|refine X5 (W7 rfl ?_ ?_))
 all_goals (try (conv => whnf))
 all_goals (try first|exact obA|refine Ob.mk ?_)
 all_goals (first | exact hpre | rfl)
end Go.Vc

namespace Go.Vc
open Go.Proofs
open Go.Vc.W
set_option maxRecDepth 10000
set_option maxHeartbeats 4000000
theorem qeL {t : List qAG} {m : Int} (h : qBZ t m = true) (i : Int) (hi : 0 ≤ i ∧ i < t.length) : qGJ (nd t i) = true := by
 unfold qBZ at h
 rw [Bool.and_eq_true,List.all_eq_true] at h
 refine h.2 _ ?_
 have e : nd t i = t[i.toNat]'(by omega) := by unfold nd;rw [List.getD_eq_getElem?_getD,List.getElem?_eq_getElem (by omega)];rfl
 rw [e];exact List.getElem_mem _
theorem qtR {t : List qAG} {m : Int} (h : qBZ t m = true) : (t.length : Int) ≤ m := by
 unfold qBZ at h;rw [Bool.and_eq_true,decide_eq_true_eq] at h;exact h.1
theorem qOX {n : qAG} (h : qGJ n = true) : n.2.2.1.length ≤ 40 ∧ n.2.2.2.1.length ≤ 14 ∧ n.2.2.2.2.1.length ≤ 300 ∧ n.kids.length ≤ 60 := by
 unfold qGJ qE1 at h
 simp only [Bool.and_eq_true,decide_eq_true_eq] at h
 omega
abbrev idT : List UInt8 := [105,100]
abbrev qcZ : List UInt8 := [110,97,109,101]
def qCF (t : List qAG) : List Int := qCM (fin t).L
theorem qZ4 (t : List qAG) : (qCF t).length ≤ t.length := by
 have d := qN2 (qAC t) t.length
 have h := qVJ d.nod d.lt
 unfold qCF qCM
 rw [List.length_map];exact h
theorem qKD (t : List qAG) (k : Nat) (h : k < (qCF t).length) (d0 : Int) : 0 ≤ (qCF t).getD k d0 ∧ (qCF t).getD k d0 < t.length := by
 have d := qN2 (qAC t) t.length
 unfold qCF qCM at *
 rw [List.length_map] at h
 rw [List.getD_eq_getElem?_getD,List.getElem?_map,List.getElem?_eq_getElem h]
 have := d.lt _ (List.getElem_mem h)
 show 0 ≤ ((fin t).L[k] : Int) ∧ ((fin t).L[k] : Int) < t.length
 have h2 : (fin t).L[k] < t.length := this
 omega
end Go.Vc

namespace Go.Vc
open Go.Proofs
open Go.Vc.W
set_option maxRecDepth 10000
def qG9 (l : List qAK) : Bool := decide (l.length ≤ 14) && l.all fun a => decide (a.1.length ≤ 40) && decide (a.2.length ≤ 4000)
def qEV (n : qAG) : Bool := decide ((n.2.2.1.length : Int) ≤ 40) && decide ((n.2.2.2.2.1.length : Int) ≤ 300) && decide ((n.kids.length : Int) ≤ 60) && qG9 n.2.2.2.1
def qBB (l : List qAG) (most : Int) : Bool := decide (l.length ≤ most) && l.all qEV
theorem qLR {t : List qAG} {m : Int} (h : qBB t m = true) (i : Int) (hi : 0 ≤ i ∧ i < t.length) : qEV (nd t i) = true := by
 unfold qBB at h
 rw [Bool.and_eq_true,List.all_eq_true] at h
 refine h.2 _ ?_
 have e : nd t i = t[i.toNat]'(by omega) := by unfold nd;rw [List.getD_eq_getElem?_getD,List.getElem?_eq_getElem (by omega)];rfl
 rw [e];exact List.getElem_mem _
theorem qYI {t : List qAG} {m : Int} (h : qBB t m = true) : (t.length : Int) ≤ m := by
 unfold qBB at h;rw [Bool.and_eq_true,decide_eq_true_eq] at h;exact h.1
theorem qGA {n : qAG} (h : qEV n = true) : n.2.2.1.length ≤ 40 ∧ n.2.2.2.1.length ≤ 14 ∧ n.2.2.2.2.1.length ≤ 300 ∧ n.kids.length ≤ 60 := by
 unfold qEV qG9 at h
 simp only [Bool.and_eq_true,decide_eq_true_eq] at h
 omega
theorem qeJ {t : List qAG} {m : Int} (h : qBZ t m = true) : qBB t m = true := by
 unfold qBZ at h
 unfold qBB
 rw [Bool.and_eq_true,List.all_eq_true] at h ⊢
 refine ⟨h.1,fun n hn => ?_⟩
 have := h.2 n hn
 unfold qGJ qE1 at this
 unfold qEV qG9
 simp only [Bool.and_eq_true,decide_eq_true_eq,List.all_eq_true] at this ⊢
 exact ⟨this.1,this.2.1,fun a ha => ⟨(this.2.2 a ha).1,by have := (this.2.2 a ha).2;omega⟩⟩
end Go.Vc

namespace Go.Vc
open Go.Proofs
set_option maxRecDepth 10000
set_option maxHeartbeats 4000000
theorem qUT (l : List Int) (k : Nat) (x : Int) (h : k < l.length) : ((l.take (k + 1)).count x : Int) = bif l.getD k 0 == x then ((l.take k).count x : Int) + 1 else ((l.take k).count x : Int) := by
 rw [take_snoc l k 0 h,List.count_append,List.count_cons,List.count_nil]
 cases e : l.getD k 0 == x <;> simp
instance rtTimes (l : List Int) (x : Int) : Fn BB 27 [.rd qAI l,.int .i64 x] (l.length ≤ 1000000) (.int .i64 (l.count x : Nat)) := by
 refine Fn.intro (N := 22) [0,1,4,5,6,10,18] [] Tryz.call27 Tryz.func27 rfl rfl (by kernel_rfl) (fun hpre => ?_)
 repeat' ((conv => whnf);first|exact qR|intro _|refine WA ?_ ?_|refine WF ?_|refine W1 rfl ?_ ?_|refine W2 rfl ?_ ?_|refine W3 rfl ?_ ?_|refine W4 ?_ ?_|refine W5 rfl ?_ ?_|refine W6 ?_ ?_|refine WN ?_|refine X1 (W1 rfl ?_ ?_)|refine X1 (W2 rfl ?_ ?_)|refine X2 (W7 rfl ?_ ?_)|refine X3 (W7 rfl ?_ ?_)|refine X4 (W7 rfl ?_ ?_)|refine X5 (W7 rfl ?_ ?_))
 all_goals (try (conv => whnf))
 all_goals (try first|exact obA|refine Ob.mk ?_)
 refine LoopStop.mk (α := Nat) (fun i => [(6,.int .i64 i),(5,.int .i64 ((l.take i).count x : Nat))]) (fun _ => []) 20 (fun i => i ≤ l.length) (fun i => l.length - i) 0 (Nat.zero_le _) ?_ (fun i hi => ?_)
 ·all_goals exact vcA
 ·have hc : (l.take i).count x ≤ i := Nat.le_trans List.count_le_length (by rw [List.length_take];omega)
  repeat' ((conv => whnf);first|exact qR|intro _|refine WA ?_ ?_|refine WF ?_|refine W1 rfl ?_ ?_|refine W2 rfl ?_ ?_|refine W3 rfl ?_ ?_|refine W4 ?_ ?_|refine W5 rfl ?_ ?_|refine W6 ?_ ?_|refine WN ?_|refine X1 (W1 rfl ?_ ?_)|refine X1 (W2 rfl ?_ ?_)|refine X2 (W7 rfl ?_ ?_)|refine X3 (W7 rfl ?_ ?_)|refine X4 (W7 rfl ?_ ?_)|refine X5 (W7 rfl ?_ ?_))
  all_goals (try (conv => whnf))
  all_goals (try first|exact obA|refine Ob.mk ?_)
  all_goals (try simp only [Int.toNat_natCast] at *)
  ·rename_i h1 h2
   have hl : i < l.length := by have := of_decide_eq_true h1;omega
   refine Rnd.mk ⟨i + 1,by omega,by omega,?_,?_,?_⟩
   repeat' ((conv => whnf);first|exact qR|intro _|refine WA ?_ ?_|refine WF ?_|refine W1 rfl ?_ ?_|refine W2 rfl ?_ ?_|refine W3 rfl ?_ ?_|refine W4 ?_ ?_|refine W5 rfl ?_ ?_|refine W6 ?_ ?_|refine WN ?_|refine X1 (W1 rfl ?_ ?_)|refine X1 (W2 rfl ?_ ?_)|refine X2 (W7 rfl ?_ ?_)|refine X3 (W7 rfl ?_ ?_)|refine X4 (W7 rfl ?_ ?_)|refine X5 (W7 rfl ?_ ?_))
   all_goals (try (conv => whnf))
   all_goals (try first|exact obA|refine Ob.mk ?_)
   all_goals (first | rfl | (rw [qUT l i x hl,show (l.getD i 0 == x) = true from h2];rfl) | trace_state)
  ·rename_i h1 h2
   have hl : i < l.length := by have := of_decide_eq_true h1;omega
   refine Rnd.mk ⟨i + 1,by omega,by omega,?_,?_,?_⟩
   repeat' ((conv => whnf);first|exact qR|intro _|refine WA ?_ ?_|refine WF ?_|refine W1 rfl ?_ ?_|refine W2 rfl ?_ ?_|refine W3 rfl ?_ ?_|refine W4 ?_ ?_|refine W5 rfl ?_ ?_|refine W6 ?_ ?_|refine WN ?_|refine X1 (W1 rfl ?_ ?_)|refine X1 (W2 rfl ?_ ?_)|refine X2 (W7 rfl ?_ ?_)|refine X3 (W7 rfl ?_ ?_)|refine X4 (W7 rfl ?_ ?_)|refine X5 (W7 rfl ?_ ?_))
   all_goals (try (conv => whnf))
   all_goals (try first|exact obA|refine Ob.mk ?_)
   all_goals (first | rfl | (rw [qUT l i x hl,show (l.getD i 0 == x) = false from h2];rfl) | trace_state)
  ·rename_i h1
   have hl : i = l.length := by have := of_decide_eq_false h1;omega
   rw [hl,List.take_length]
def qH1 (t : List qAG) : Nat → Int → Bool
 | 0,_ => false
 | f + 1,i => bif (nd t i).up == -1 then true else qH1 t f (nd t i).up
def qi8 (t : List qAG) : Prop := ∀ i : Int,0 ≤ i ∧ i < t.length → (nd t i).up = -1 ∨ (0 ≤ (nd t i).up ∧ (nd t i).up < t.length)
instance rtHeld (t : List qAG) (i : Int) : Fn BB 28 [.agg [.rd qAB t],.int .i64 i] ((0 ≤ i ∧ i < t.length) ∧ qi8 t ∧ t.length ≤ 1000000) (.bool (qH1 t (t.length + 1) i)) := by
 refine Fn.intro (N := 26) [0,1,2,4,5,10,19] [] Tryz.call28 Tryz.func28 rfl rfl (by kernel_rfl) (fun hpre => ?_)
 obtain ⟨h1,h2,h3⟩ := hpre
 repeat' ((conv => whnf);first|exact qR|intro _|refine WA ?_ ?_|refine WF ?_|refine W1 rfl ?_ ?_|refine W2 rfl ?_ ?_|refine W3 rfl ?_ ?_|refine W4 ?_ ?_|refine W5 rfl ?_ ?_|refine W6 ?_ ?_|refine WN ?_|refine X1 (W1 rfl ?_ ?_)|refine X1 (W2 rfl ?_ ?_)|refine X2 (W7 rfl ?_ ?_)|refine X3 (W7 rfl ?_ ?_)|refine X4 (W7 rfl ?_ ?_)|refine X5 (W7 rfl ?_ ?_))
 all_goals (try (conv => whnf))
 all_goals (try first|exact obA|refine Ob.mk ?_)
 refine LoopStop.mk (α := Nat × Int) (fun a => [(5,.int .i64 (a.1 : Nat)),(1,.int .i64 a.2)]) (fun _ => []) 20 (fun a => a.1 ≤ t.length + 1 ∧ (0 ≤ a.2 ∧ a.2 < t.length) ∧ qH1 t (t.length + 1) i = qH1 t (t.length + 1 - a.1) a.2) (fun a => t.length + 1 - a.1) (0,i) ⟨by simp,h1,rfl⟩ ?_ (fun a ha => ?_)
 ·all_goals exact vcA
 ·obtain ⟨k,j⟩ := a
  obtain ⟨g1,g2,g3⟩ := ha
  dsimp only at g1 g2 g3
  have hu := h2 j g2
  have st : k ≤ t.length → qH1 t (t.length + 1 - k) j = bif (nd t j).up == -1 then true else qH1 t (t.length + 1 - (k + 1)) (nd t j).up := fun h => by
   rw [show t.length + 1 - k = (t.length - k) + 1 by omega,qH1,show t.length + 1 - (k + 1) = t.length - k by omega]
  repeat' ((conv => whnf);first|exact qR|intro _|refine WA ?_ ?_|refine WF ?_|refine W1 rfl ?_ ?_|refine W2 rfl ?_ ?_|refine W3 rfl ?_ ?_|refine W4 ?_ ?_|refine W5 rfl ?_ ?_|refine W6 ?_ ?_|refine WN ?_|refine X1 (W1 rfl ?_ ?_)|refine X1 (W2 rfl ?_ ?_)|refine X2 (W7 rfl ?_ ?_)|refine X3 (W7 rfl ?_ ?_)|refine X4 (W7 rfl ?_ ?_)|refine X5 (W7 rfl ?_ ?_))
  all_goals (try (conv => whnf))
  all_goals (try first|exact obA|refine Ob.mk ?_)
  all_goals (try dsimp only at *)
  all_goals (try (exact g2))
  all_goals (try omega)
  ·rename_i c1 c2
   have hk : k ≤ t.length := by have := of_decide_eq_true c1;omega
   rw [g3,st hk,show ((nd t j).up == -1) = true from c2];rfl
  ·rename_i c1 c2
   have hk : k ≤ t.length := by have := of_decide_eq_true c1;omega
   have hne : (nd t j).up ≠ -1 := fun e => by
    rw [show ((nd t j).up == -1) = true from beq_iff_eq.2 e] at c2
    cases c2
   refine Rnd.mk ⟨(k + 1,(nd t j).up),⟨by (simp only;omega),by (simp only;exact hu.resolve_left hne),by rw [g3,st hk,show ((nd t j).up == -1) = false from c2];rfl⟩,by (simp only;omega),?_,?_,?_⟩
   all_goals exact vcA
  ·rename_i c1
   have hk : k = t.length + 1 := by have := of_decide_eq_false c1;omega
   rw [g3,hk,Nat.sub_self];rfl
end Go.Vc

namespace Go.Vc
open Go.Proofs
set_option maxRecDepth 10000
set_option maxHeartbeats 8000000
def ndR (t : List qAG) (i : Nat) : qAG := t.getD i qAB.dflt
def qeX (t : List qAG) (i : Nat) : Bool := decide ((i : Int) > 0) && (decide ((ndR t i).1 < 1) || decide ((ndR t i).1 > 4) || decide ((ndR t i).up < -1) || decide ((ndR t i).up ≥ (t.length : Int)))
def quM (t : List qAG) (i : Nat) : Bool := decide ((ndR t i).up ≥ 0) && (decide ((nd t (ndR t i).up).1 > 1) || ((nd t (ndR t i).up).kids.count (i : Int) : Int) != 1)
def qqV (t : List qAG) (i : Nat) (k : Int) : Bool := decide (k < 0) || decide (k ≥ (t.length : Int)) || (nd t k).up != (i : Int)
def okN (t : List qAG) (i : Nat) : Bool := !qeX t i && !quM t i && (ndR t i).kids.all fun k => !qqV t i k
def badR (t : List qAG) : Bool := (t.length : Int) == 0 || (nd t 0).1 != 0 || (nd t 0).up != -1
def qK9 (t : List qAG) : Bool := !badR t && ((List.range t.length).all (okN t) && (List.range t.length).all fun i => qH1 t (t.length + 1) i)
theorem qCW (p : Nat → Bool) (n i : Nat) (hi : i < n) (h : p i = false) : (List.range n).all p = false := by
 rw [List.all_eq_false]
 exact ⟨i,List.mem_range.2 hi,by rw [h];decide⟩
theorem qHL (p : Nat → Bool) (n : Nat) (h : ∀ k,k < n → p k = true) : (List.range n).all p = true := by
 rw [List.all_eq_true]
 exact fun k hk => h k (List.mem_range.1 hk)
instance rtRight (t : List qAG) : Fn BB 13 [.agg [.rd qAB t]] (t.length ≤ 1000 ∧ ∀ i,(nd t i).kids.length ≤ 1000) (.bool (qK9 t)) := by
  refine Fn.intro (N := 138) [0,1,2,3,4,5,6,26,31,63,88,93,126,131,137] [(14,[0,1,0,1,1,1,1,1,1,1,1,1,1,1,1,1,1,1,1,1,1,1,1,1,1,1,1,1,1,3,3])] Tryz.call13 Tryz.func13 rfl rfl (by kernel_rfl) (fun hpre => ?_)
  obtain ⟨h1,h2⟩ := hpre
  have bt : badR t = true → qK9 t = false := fun h => by unfold qK9;rw [h];rfl
  have bf : badR t = false → 0 < t.length := fun h => by
    unfold badR at h
    simp only [Bool.or_eq_false_iff,beq_eq_false_iff_ne] at h
    have := h.1.1;omega
  repeat' ((conv => whnf);first|exact qR|intro _|refine WA ?_ ?_|refine WF ?_|refine W1 rfl ?_ ?_|refine W2 rfl ?_ ?_|refine W3 rfl ?_ ?_|refine W4 ?_ ?_|refine W5 rfl ?_ ?_|refine W6 ?_ ?_|refine WN ?_|refine X1 (W1 rfl ?_ ?_)|refine X1 (W2 rfl ?_ ?_)|refine X2 (W7 rfl ?_ ?_)|refine X3 (W7 rfl ?_ ?_)|refine X4 (W7 rfl ?_ ?_)|refine X5 (W7 rfl ?_ ?_))
  all_goals (try (conv => whnf))
  all_goals (try first|exact obA|refine Ob.mk ?_)
  all_goals (try (have hz : ¬ t.length = 0 := fun e => by (have h := ‹((t.length : Int) == 0 || _) = false›;rw [Bool.or_eq_false_iff] at h;have := beq_eq_false_iff_ne.1 h.1;omega)))
  all_goals (try omega)
  · exact (bt ‹_›).symm
  have hbad : badR t = false := ‹_›
  have hpos := bf hbad
  have hup0 : (nd t 0).up = -1 := by
    unfold badR at hbad
    simp only [Bool.or_eq_false_iff] at hbad
    have := hbad.2
    simpa using this
  have red : qK9 t = ((List.range t.length).all (okN t) && (List.range t.length).all fun i => qH1 t (t.length + 1) i) := by unfold qK9;rw [hbad];rfl
  rw [red]
  refine LoopStop.mk (α := Nat) (fun i => [(3,.int .i64 i)]) (fun _ => []) 20 (fun i => i ≤ t.length ∧ ∀ k,k < i → okN t k = true) (fun i => t.length - i) 0 ⟨Nat.zero_le _,fun k hk => absurd hk (Nat.not_lt_zero _)⟩ ?_ (fun i hi => ?_)
  · all_goals exact vcA
  · obtain ⟨hi,hall⟩ := hi
    have fA : qeX t i = true → okN t i = false := fun h => by unfold okN;rw [h];rfl
    have fB : quM t i = true → okN t i = false := fun h => by unfold okN;rw [h];simp
    have fU : qeX t i = false → i < t.length → (ndR t i).up = -1 ∨ (0 ≤ (ndR t i).up ∧ (ndR t i).up < t.length) := fun h hl => by
      by_cases e : i = 0
      · left;subst e;exact hup0
      · unfold qeX at h
        rw [decide_eq_true (by omega),Bool.true_and] at h
        simp only [Bool.or_eq_false_iff] at h
        have a1 := of_decide_eq_false h.1.2
        have a2 := of_decide_eq_false h.2
        omega
    repeat' ((conv => whnf);first|exact qR|intro _|refine WA ?_ ?_|refine WF ?_|refine W1 rfl ?_ ?_|refine W2 rfl ?_ ?_|refine W3 rfl ?_ ?_|refine W4 ?_ ?_|refine W5 rfl ?_ ?_|refine W6 ?_ ?_|refine WN ?_|refine X1 (W1 rfl ?_ ?_)|refine X1 (W2 rfl ?_ ?_)|refine X2 (W7 rfl ?_ ?_)|refine X3 (W7 rfl ?_ ?_)|refine X4 (W7 rfl ?_ ?_)|refine X5 (W7 rfl ?_ ?_))
    all_goals (try (conv => whnf))
    all_goals (try first|exact obA|refine Ob.mk ?_)
    all_goals (try simp only [Int.toNat_natCast] at *)
    all_goals (try (have hlt : i < t.length := by have := of_decide_eq_true ‹decide ((i : Int) < (t.length : Int)) = true›;omega))
    all_goals (try (have hA : qeX t i = false := by assumption))
    all_goals (try (have hUp := fU hA hlt))
    all_goals (try (have hge := of_decide_eq_true (show decide ((ndR t i).up ≥ 0) = true by assumption);first
      | exact hUp.resolve_left (by omega)
      | exact Nat.le_trans (h2 _) (by omega)
      | (show Int.toNat (ndR t i).up < _;omega)))
    all_goals (try (rw [qCW _ _ i hlt (fA (by assumption))];rfl))
    all_goals (try (rw [qCW _ _ i hlt (fB (by assumption))];rfl))
    · have hB : quM t i = false := by assumption
      have fK : ∀ k,k ∈ (ndR t i).kids → qqV t i k = true → okN t i = false := fun k hk h => by
        unfold okN
        rw [hA,hB]
        simp only [Bool.not_false,Bool.true_and,List.all_eq_false]
        exact ⟨k,hk,by rw [h];decide⟩
      have hkl : (ndR t i).kids.length ≤ 1000 := by have := h2 (i : Int);unfold nd at this;rw [Int.toNat_natCast] at this;exact this
      refine LoopStop.mk (α := Nat) (fun j => [(5,.int .i64 j)]) (fun _ => []) 60 (fun j => j ≤ (ndR t i).kids.length ∧ ∀ k,k < j → qqV t i ((ndR t i).kids.getD k 0) = false) (fun j => (ndR t i).kids.length - j) 0 ⟨Nat.zero_le _,fun k hk => absurd hk (Nat.not_lt_zero _)⟩ ?_ (fun j hj => ?_)
      · all_goals exact vcA
      · obtain ⟨hj,hjall⟩ := hj
        repeat' ((conv => whnf);first|exact qR|intro _|refine WA ?_ ?_|refine WF ?_|refine W1 rfl ?_ ?_|refine W2 rfl ?_ ?_|refine W3 rfl ?_ ?_|refine W4 ?_ ?_|refine W5 rfl ?_ ?_|refine W6 ?_ ?_|refine WN ?_|refine X1 (W1 rfl ?_ ?_)|refine X1 (W2 rfl ?_ ?_)|refine X2 (W7 rfl ?_ ?_)|refine X3 (W7 rfl ?_ ?_)|refine X4 (W7 rfl ?_ ?_)|refine X5 (W7 rfl ?_ ?_))
        all_goals (try (conv => whnf))
        all_goals (try first|exact obA|refine Ob.mk ?_)
        all_goals (try simp only [Int.toNat_natCast] at *)
        all_goals (try (have hjl : j < (ndR t i).kids.length := by have := of_decide_eq_true (show decide ((j : Int) < ((ndR t i).kids.length : Int)) = true by assumption);omega))
        · have h := ‹(decide (_ < (0 : Int)) || decide (_ ≥ (t.length : Int))) = false›
          rw [Bool.or_eq_false_iff] at h
          have a1 := of_decide_eq_false h.1
          have a2 := of_decide_eq_false h.2
          omega
        · have hmem : (ndR t i).kids.getD j 0 ∈ (ndR t i).kids := by
            have e : (ndR t i).kids.getD j 0 = (ndR t i).kids[j] := by simp [List.getD,hjl]
            rw [e];exact List.getElem_mem _
          rw [qCW _ _ i hlt (fK _ hmem (by assumption))];rfl
        · have hk : qqV t i ((ndR t i).kids.getD j 0) = false := by assumption
          refine Rnd.mk ⟨j + 1,⟨by omega,fun k hk' => by (rcases Nat.lt_or_ge k j with q | q);exact hjall k q;(have : k = j := by omega);subst this;exact hk⟩,by omega,?_,?_,?_⟩
          all_goals exact vcA
        · have hje : j = (ndR t i).kids.length := by have := of_decide_eq_false (show decide ((j : Int) < ((ndR t i).kids.length : Int)) = false by assumption);omega
          have hok : okN t i = true := by
            unfold okN
            rw [hA,hB]
            simp only [Bool.not_false,Bool.true_and,List.all_eq_true]
            intro k hk
            obtain ⟨m,hm,rfl⟩ := List.getElem_of_mem hk
            have := hjall m (by omega)
            rw [show (ndR t i).kids.getD m 0 = (ndR t i).kids[m] by simp [List.getD,hm]] at this
            rw [this];rfl
          refine Rnd.mk ⟨i + 1,⟨by omega,fun k hk' => by (rcases Nat.lt_or_ge k i with q | q);exact hall k q;(have : k = i := by omega);subst this;exact hok⟩,by omega,?_,?_,?_⟩
          all_goals exact vcA
    · have hie : i = t.length := by have := of_decide_eq_false ‹decide ((i : Int) < (t.length : Int)) = false›;omega
      have e1 : (List.range t.length).all (okN t) = true := qHL _ _ (fun k hk => hall k (by omega))
      have hups : qi8 t := fun x hx => by
        have hx2 : x.toNat < t.length := by omega
        have h := hall x.toNat (by omega)
        have hA : qeX t x.toNat = false := by unfold okN at h;cases e : qeX t x.toNat <;> rw [e] at h <;> simp_all
        have e3 : ndR t x.toNat = nd t x := rfl
        by_cases e : x.toNat = 0
        · left
          have : x = 0 := by omega
          subst this;exact hup0
        · unfold qeX at hA
          rw [decide_eq_true (by omega),Bool.true_and,e3] at hA
          simp only [Bool.or_eq_false_iff] at hA
          have a1 := of_decide_eq_false hA.1.2
          have a2 := of_decide_eq_false hA.2
          omega
      rw [e1,Bool.true_and]
      refine LoopStop.mk (α := Nat) (fun j => [(6,.int .i64 j)]) (fun _ => []) 60 (fun j => j ≤ t.length ∧ ∀ k,k < j → qH1 t (t.length + 1) (k : Nat) = true) (fun j => t.length - j) 0 ⟨Nat.zero_le _,fun k hk => absurd hk (Nat.not_lt_zero _)⟩ ?_ (fun j hj => ?_)
      · all_goals exact vcA
      · obtain ⟨hj,hjall⟩ := hj
        repeat' ((conv => whnf);first|exact qR|intro _|refine WA ?_ ?_|refine WF ?_|refine W1 rfl ?_ ?_|refine W2 rfl ?_ ?_|refine W3 rfl ?_ ?_|refine W4 ?_ ?_|refine W5 rfl ?_ ?_|refine W6 ?_ ?_|refine WN ?_|refine X1 (W1 rfl ?_ ?_)|refine X1 (W2 rfl ?_ ?_)|refine X2 (W7 rfl ?_ ?_)|refine X3 (W7 rfl ?_ ?_)|refine X4 (W7 rfl ?_ ?_)|refine X5 (W7 rfl ?_ ?_))
        all_goals (try (conv => whnf))
        all_goals (try first|exact obA|refine Ob.mk ?_)
        all_goals (try simp only [Int.toNat_natCast] at *)
        all_goals (try (have hjl : j < t.length := by have := of_decide_eq_true ‹decide ((j : Int) < (t.length : Int)) = true›;omega))
        all_goals (try exact ⟨by omega,hups,by omega⟩)
        · have h : qH1 t (t.length + 1) (j : Nat) = false := by simpa using ‹(!qH1 t (t.length + 1) _) = true›
          rw [qCW _ _ j hjl h]
        · have h : qH1 t (t.length + 1) (j : Nat) = true := by simpa using ‹(!qH1 t (t.length + 1) _) = false›
          refine Rnd.mk ⟨j + 1,⟨by omega,fun k hk' => by (rcases Nat.lt_or_ge k j with q | q);exact hjall k q;(have : k = j := by omega);subst this;exact h⟩,by omega,?_,?_,?_⟩
          all_goals exact vcA
        · have hje : j = t.length := by have := of_decide_eq_false ‹decide ((j : Int) < (t.length : Int)) = false›;omega
          rw [qHL _ _ (fun k hk => hjall k (by omega))]
end Go.Vc

namespace Go.Vc
open Go.Proofs
open Go.Vc.W
set_option maxRecDepth 10000
set_option maxHeartbeats 4000000
theorem qiC {t : List qAG} {m : Int} (h : qBZ t m = true) (i : Int) : (nd t i).kids.length ≤ 60 := by
 by_cases hi : 0 ≤ i ∧ i < t.length
 ·exact (qOX (qeL h i hi)).2.2.2
 ·by_cases h2 : i.toNat < t.length
  ·have e : nd t i = nd t (i.toNat : Int) := rfl
   rw [e];exact (qOX (qeL h (i.toNat : Int) ⟨by omega,by omega⟩)).2.2.2
  ·have : nd t i = qAB.dflt := by unfold nd;rw [List.getD_eq_getElem?_getD,List.getElem?_eq_none (by omega)];rfl
   rw [this];decide
instance iRight (t : List qAG) (m : Int) : Fn BB 5 [.agg [.rd qAB t],.int .i64 m] (m ≤ 45) (.bool (qBZ t m && qK9 t)) := by
 refine Fn.intro (N := 12) [0,1,2,4] [] Tryz.call5 Tryz.func5 rfl rfl (by kernel_rfl) (fun hpre => ?_)
 repeat' ((conv => whnf);first|exact qR|intro _|refine WA ?_ ?_|refine WF ?_|refine W1 rfl ?_ ?_|refine W2 rfl ?_ ?_|refine W3 rfl ?_ ?_|refine W4 ?_ ?_|refine W5 rfl ?_ ?_|refine W6 ?_ ?_|refine WN ?_|refine X1 (W1 rfl ?_ ?_)|refine X1 (W2 rfl ?_ ?_)|refine X2 (W7 rfl ?_ ?_)|refine X3 (W7 rfl ?_ ?_)|refine X4 (W7 rfl ?_ ?_)|refine X5 (W7 rfl ?_ ?_))
 all_goals (try (conv => whnf))
 all_goals (try first|exact obA|refine Ob.mk ?_)
 all_goals (have h1 := qtR ‹qBZ t m = true›;exact ⟨by omega,fun i => Nat.le_trans (qiC ‹qBZ t m = true› i) (by decide)⟩)
def qfP (t : List qAG) (i : Int) (nm : List UInt8) : List UInt8 := if 0 ≤ i ∧ i < t.length then qVF (nd t i).2.2.2.1 nm else []
def qFB (el nm v : List UInt8) (n : qAG) : Bool := n.1 == 1 && ((el == []) || (n.2.1 == 0 && n.2.2.1 == el)) && (qVF n.2.2.2.1 nm == v)
def qGZ (t : List qAG) (el nm v : List UInt8) : Int := if v = [] then 0 else ((qCF t).find? fun i => qFB el nm v (nd t i)).getD 0
instance iValue (t : List qAG) (i : Int) (nm : List UInt8) : Fn BB 101 [.agg [.rd qAB t],.int .i64 i,.str nm] (qBB t 45 = true) (.str (qfP t i nm)) := by
 refine Fn.intro (N := 30) [0,1,2,3,6,7,17] [] Tryz.call101 Tryz.func101 rfl rfl (by kernel_rfl) (fun hpre => ?_)
 have ht : (decide (i < 0) || decide (i ≥ (t.length : Int))) = true → qfP t i nm = [] := fun h => by
  simp only [Bool.or_eq_true,decide_eq_true_eq] at h
  unfold qfP;rw [if_neg (by omega)]
 have hf : (decide (i < 0) || decide (i ≥ (t.length : Int))) = false → (0 ≤ i ∧ i < t.length) ∧ qfP t i nm = qVF (nd t i).2.2.2.1 nm := fun h => by
  simp only [Bool.or_eq_false_iff,decide_eq_false_iff_not] at h
  refine ⟨by omega,?_⟩
  unfold qfP;rw [if_pos (by omega)]
 repeat' ((conv => whnf);first|exact qR|intro _|refine WA ?_ ?_|refine WF ?_|refine W1 rfl ?_ ?_|refine W2 rfl ?_ ?_|refine W3 rfl ?_ ?_|refine W4 ?_ ?_|refine W5 rfl ?_ ?_|refine W6 ?_ ?_|refine WN ?_|refine X1 (W1 rfl ?_ ?_)|refine X1 (W2 rfl ?_ ?_)|refine X2 (W7 rfl ?_ ?_)|refine X3 (W7 rfl ?_ ?_)|refine X4 (W7 rfl ?_ ?_)|refine X5 (W7 rfl ?_ ?_))
 all_goals (try (conv => whnf))
 all_goals (try first|exact obA|refine Ob.mk ?_)
 all_goals (first | exact (ht ‹_›).symm | exact (hf ‹_›).1 | exact (hf ‹_›).2.symm | exact Nat.le_trans (qGA (qLR hpre i (hf ‹_›).1)).2.1 (by decide) | trace_state)
theorem qtP {p : Int → Bool} : ∀ {L : List Int} {k : Nat},k < L.length → (∀ j,j < k → p (L.getD j 0) = false) → p (L.getD k 0) = true → L.find? p = some (L.getD k 0) := by
 intro L
 induction L with
 | nil => intro k h;exact absurd h (Nat.not_lt_zero _)
 | cons a L ih =>
  intro k h h0 h1
  cases k with
  | zero => rw [List.find?_cons];simp only [List.getD_cons_zero] at *;rw [h1]
  | succ k =>
   have ha := h0 0 (Nat.succ_pos _)
   rw [List.getD_cons_zero] at ha
   rw [List.find?_cons,ha]
   exact ih (Nat.lt_of_succ_lt_succ h) (fun j hj => h0 (j + 1) (Nat.succ_lt_succ hj)) h1
theorem qWK {p : Int → Bool} {L : List Int} (h0 : ∀ j,j < L.length → p (L.getD j 0) = false) : L.find? p = none := by
 rw [List.find?_eq_none]
 intro x hx
 obtain ⟨j,hj,e⟩ := List.mem_iff_getElem.1 hx
 have := h0 j hj
 rw [List.getD_eq_getElem?_getD,List.getElem?_eq_getElem hj] at this
 simp only [Option.getD_some,e] at this
 rw [this];decide
theorem qYA {el nm v : List UInt8} {t : List qAG} {i : Int} (hi : 0 ≤ i ∧ i < t.length) : qFB el nm v (nd t i) = ((nd t i).1 == 1 && (el == [] || (nd t i).2.1 == 0 && (nd t i).2.2.1 == el) && qfP t i nm == v) := by
 unfold qFB qfP;rw [if_pos hi]
instance iFind (t : List qAG) (el nm v : List UInt8) : Fn BB 74 [.agg [.rd qAB t],.str el,.str nm,.str v] (qBB t 45 = true) (.int .i64 (qGZ t el nm v)) := by
 refine Fn.intro (N := 65) [0,1,2,3,4,8,9,10,11,21,60] [(5,[0,0,0,0,0,0,0,0,6,6]),(6,[0,1,1,1,1,1,1,1,1,1,1,1,1,1,1,1,1,1,1,1,1,1,1,1,1,1,1,3,3])] Tryz.call74 Tryz.func74 rfl rfl (by kernel_rfl) (fun hpre => ?_)
 have hl := qYI hpre
 repeat' ((conv => whnf);first|exact qR|intro _|refine WA ?_ ?_|refine WF ?_|refine W1 rfl ?_ ?_|refine W2 rfl ?_ ?_|refine W3 rfl ?_ ?_|refine W4 ?_ ?_|refine W5 rfl ?_ ?_|refine W6 ?_ ?_|refine WN ?_|refine X1 (W1 rfl ?_ ?_)|refine X1 (W2 rfl ?_ ?_)|refine X2 (W7 rfl ?_ ?_)|refine X3 (W7 rfl ?_ ?_)|refine X4 (W7 rfl ?_ ?_)|refine X5 (W7 rfl ?_ ?_))
 all_goals (try (conv => whnf))
 all_goals (try first|exact obA|refine Ob.mk ?_)
 refine LoopStop.mk (α := Nat) (fun k => [(10,.int .i64 k)]) (fun _ => []) 30 (fun k => k ≤ (qCF t).length ∧ (v = [] → k = 0) ∧ ∀ j,j < k → qFB el nm v (nd t ((qCF t).getD j 0)) = false) (fun k => (qCF t).length - k) 0 ⟨Nat.zero_le _,fun _ => rfl,fun j hj => absurd hj (Nat.not_lt_zero _)⟩ ?_ (fun k hk => ?_)
 ·all_goals exact vcA
 ·obtain ⟨hk,hk0,hkj⟩ := hk
  by_cases hc : (decide ((k : Int) < ((qCM (fin t).L).length : Int)) && !(v == [])) = true
  ·have hc' := hc
   rw [Bool.and_eq_true,decide_eq_true_eq,Bool.not_eq_true'] at hc'
   have hkl : k < (qCF t).length := Int.ofNat_lt.mp hc'.1
   have hne : ¬ v = [] := fun e => by rw [e] at hc';exact absurd hc'.2 (by decide)
   have hat : 0 ≤ (qCM (fin t).L).getD k qAI.dflt ∧ (qCM (fin t).L).getD k qAI.dflt < t.length := qKD t k hkl _
   have hfb := qYA (el := el) (nm := nm) (v := v) hat
   repeat' ((conv => whnf);first|exact qR|intro _|refine WA ?_ ?_|refine WF ?_|refine W1 rfl ?_ ?_|refine W2 rfl ?_ ?_|refine W3 rfl ?_ ?_|refine W4 ?_ ?_|refine W5 rfl ?_ ?_|refine W6 ?_ ?_|refine WN ?_|refine X1 (W1 rfl ?_ ?_)|refine X1 (W2 rfl ?_ ?_)|refine X2 (W7 rfl ?_ ?_)|refine X3 (W7 rfl ?_ ?_)|refine X4 (W7 rfl ?_ ?_)|refine X5 (W7 rfl ?_ ?_))
   all_goals (try (conv => whnf))
   all_goals (try first|exact obA|refine Ob.mk ?_)
   all_goals (try simp only [Int.toNat_natCast] at *)
   all_goals (try (exact hat))
   ·unfold qGZ
    rw [if_neg hne,qtP (p := fun i => qFB el nm v (nd t i)) hkl hkj (hfb.trans ‹_›)]
    rfl
   ·refine Rnd.mk ⟨k + 1,⟨by omega,fun e => absurd e hne,fun j hj => ?_⟩,by omega,?_⟩
    ·rcases Nat.lt_or_ge j k with q | q
     ·exact hkj j q
     ·have e : j = k := by omega
      rw [e];exact hfb.trans ‹_›
    ·all_goals exact vcA
   all_goals (exact absurd (hc.symm.trans ‹(decide ((k : Int) < ((qCM (fin t).L).length : Int)) && !(v == [])) = false›) (by decide))
  ·have hx : ∀ {p : Prop},(decide ((k : Int) < ((qCM (fin t).L).length : Int)) && !(v == [])) = true → p := fun h => absurd h hc
   have hr : (0 : Int) = qGZ t el nm v := by
    unfold qGZ
    by_cases hne : v = []
    ·rw [if_pos hne]
    ·rw [if_neg hne]
     have : ¬ (k : Int) < ((qCM (fin t).L).length : Int) := fun q => hc (by rw [decide_eq_true q,Bool.true_and,Bool.not_eq_true'];exact beq_eq_false_iff_ne.2 hne)
     rw [qWK (p := fun i => qFB el nm v (nd t i)) (fun j hj => hkj j (by have h : (qCF t).length = (qCM (fin t).L).length := rfl;omega))]
     rfl
   repeat' ((conv => whnf);first|exact qR|intro _|refine WA ?_ ?_|refine WF ?_|refine W1 rfl ?_ ?_|refine W2 rfl ?_ ?_|refine W3 rfl ?_ ?_|refine W4 ?_ ?_|refine W5 rfl ?_ ?_|refine W6 ?_ ?_|refine WN ?_|refine X1 (W1 rfl ?_ ?_)|refine X1 (W2 rfl ?_ ?_)|refine X2 (W7 rfl ?_ ?_)|refine X3 (W7 rfl ?_ ?_)|refine X4 (W7 rfl ?_ ?_)|refine X5 (W7 rfl ?_ ?_))
   all_goals (try (conv => whnf))
   all_goals (try first|exact obA|refine Ob.mk ?_)
   all_goals (try exact hx (by assumption))
   all_goals (try (refine Rnd.mk ?_;exact hx (by assumption)))
   all_goals (first | exact hr | trace_state)
def firstT (t : List qAG) (v : List UInt8) : Int := qGZ t [] idT v
instance iFirst (t : List qAG) (v : List UInt8) : Fn BB 50 [.agg [.rd qAB t],.str v] (qBB t 45 = true) (.int .i64 (firstT t v)) := by
 refine Fn.intro (N := 8) [0,1,2,4] [] Tryz.call50 Tryz.func50 rfl rfl (by kernel_rfl) (fun hpre => ?_)
 repeat' ((conv => whnf);first|exact qR|intro _|refine WA ?_ ?_|refine WF ?_|refine W1 rfl ?_ ?_|refine W2 rfl ?_ ?_|refine W3 rfl ?_ ?_|refine W4 ?_ ?_|refine W5 rfl ?_ ?_|refine W6 ?_ ?_|refine WN ?_|refine X1 (W1 rfl ?_ ?_)|refine X1 (W2 rfl ?_ ?_)|refine X2 (W7 rfl ?_ ?_)|refine X3 (W7 rfl ?_ ?_)|refine X4 (W7 rfl ?_ ?_)|refine X5 (W7 rfl ?_ ?_))
 all_goals (try (conv => whnf))
 all_goals (try first|exact obA|refine Ob.mk ?_)
 all_goals (first | exact hpre | rfl)
end Go.Vc

namespace Go.Vc
open Go.Proofs
open Go.Vc.W
set_option maxRecDepth 10000
set_option maxHeartbeats 4000000
theorem u8b (c : UInt8) (k : Nat) (hk : k < 256) : ((c.toNat : Int) == (k : Int)) = (c == UInt8.ofNat k) := by
 rw [Bool.eq_iff_iff,beq_iff_eq,beq_iff_eq]
 constructor
 ·intro h;apply UInt8.toNat_inj.1;rw [UInt8.toNat_ofNat'];omega
 ·rintro rfl;rw [UInt8.toNat_ofNat'];omega
def qLV (s p : List UInt8) : Bool := decide ((s.length : Int) ≥ (p.length : Int)) && s.take p.length == p
instance eHPl (s p : List UInt8) : Fn BB 255 [.str s,.str p] True (.bool (qLV s p)) := by
 refine Fn.intro (N := 18) [0,1,4] [] Tryz.call255 Tryz.func255 rfl rfl (by kernel_rfl) (fun hpre => ?_)
 repeat' ((conv => whnf);first|exact qR|intro _|refine WA ?_ ?_|refine WF ?_|refine W1 rfl ?_ ?_|refine W2 rfl ?_ ?_|refine W3 rfl ?_ ?_|refine W4 ?_ ?_|refine W5 rfl ?_ ?_|refine W6 ?_ ?_|refine WN ?_|refine X1 (W1 rfl ?_ ?_)|refine X1 (W2 rfl ?_ ?_)|refine X2 (W7 rfl ?_ ?_)|refine X3 (W7 rfl ?_ ?_)|refine X4 (W7 rfl ?_ ?_)|refine X5 (W7 rfl ?_ ?_))
 all_goals (try (conv => whnf))
 all_goals (try first|exact obA|refine Ob.mk ?_)
 all_goals (try simp only [ZA,ZB,ZC,ZD,ZE,ZF,ZG,ZH,ZI,ZJ,ZK,ZL,ZM,ZN,ZO,Int.toNat_natCast,UInt8.ofNat_toNat,cast_eq] at *)
 all_goals rfl
theorem qbT {s p : List UInt8} (h : qLV s p = true) : p.length ≤ s.length := by
 unfold qLV at h
 have := of_decide_eq_true (Bool.and_eq_true_iff.1 h).1
 omega
instance lCPl (s p : List UInt8) : Fn BB 218 [.str s,.str p] True (.tup [.str (bif qLV s p then s.drop p.length else s),.bool (qLV s p)]) := by
 refine Fn.intro (N := 15) [0,1,4,5,9] [] Tryz.call218 Tryz.func218 rfl rfl (by kernel_rfl) (fun hpre => ?_)
 have := fun h => qbT (s := s) (p := p) h
 cases hh : qLV s p
 ·repeat' ((conv => whnf);first|exact qR|intro _|refine WA ?_ ?_|refine WF ?_|refine W1 rfl ?_ ?_|refine W2 rfl ?_ ?_|refine W3 rfl ?_ ?_|refine W4 ?_ ?_|refine W5 rfl ?_ ?_|refine W6 ?_ ?_|refine WN ?_|refine X1 (W1 rfl ?_ ?_)|refine X1 (W2 rfl ?_ ?_)|refine X2 (W7 rfl ?_ ?_)|refine X3 (W7 rfl ?_ ?_)|refine X4 (W7 rfl ?_ ?_)|refine X5 (W7 rfl ?_ ?_))
  all_goals (try (conv => whnf))
  all_goals (try first|exact obA|refine Ob.mk ?_)
  all_goals (try (exfalso;have h : (!qLV s p) = false := ‹_›;rw [hh] at h;cases h))
  all_goals (try rfl)
 ·have := this hh
  repeat' ((conv => whnf);first|exact qR|intro _|refine WA ?_ ?_|refine WF ?_|refine W1 rfl ?_ ?_|refine W2 rfl ?_ ?_|refine W3 rfl ?_ ?_|refine W4 ?_ ?_|refine W5 rfl ?_ ?_|refine W6 ?_ ?_|refine WN ?_|refine X1 (W1 rfl ?_ ?_)|refine X1 (W2 rfl ?_ ?_)|refine X2 (W7 rfl ?_ ?_)|refine X3 (W7 rfl ?_ ?_)|refine X4 (W7 rfl ?_ ?_)|refine X5 (W7 rfl ?_ ?_))
  all_goals (try (conv => whnf))
  all_goals (try first|exact obA|refine Ob.mk ?_)
  all_goals (try (exfalso;have h : (!qLV s p) = true := ‹_›;rw [hh] at h;cases h))
  all_goals (try rfl)
instance lCP (s p : List UInt8) : Fn BB 149 [.str s,.str p] True (.tup [.str (bif qLV s p then s.drop p.length else s),.bool (qLV s p)]) := by
 refine Fn.intro (N := 11) [0,1,4,5] [] Tryz.call149 Tryz.func149 rfl rfl (by kernel_rfl) (fun hpre => ?_)
 all_goals exact vcA
instance lcut (s p : List UInt8) : Fn BB 97 [.str s,.str p] True (.tup [.str (bif qLV s p then s.drop p.length else []),.bool (qLV s p)]) := by
 refine Fn.intro (N := 17) [0,1,4,5,6,7,15] [] Tryz.call97 Tryz.func97 rfl rfl (by kernel_rfl) (fun hpre => ?_)
 cases hh : qLV s p
 ·repeat' ((conv => whnf);first|exact qR|intro _|refine WA ?_ ?_|refine WF ?_|refine W1 rfl ?_ ?_|refine W2 rfl ?_ ?_|refine W3 rfl ?_ ?_|refine W4 ?_ ?_|refine W5 rfl ?_ ?_|refine W6 ?_ ?_|refine WN ?_|refine X1 (W1 rfl ?_ ?_)|refine X1 (W2 rfl ?_ ?_)|refine X2 (W7 rfl ?_ ?_)|refine X3 (W7 rfl ?_ ?_)|refine X4 (W7 rfl ?_ ?_)|refine X5 (W7 rfl ?_ ?_))
  all_goals (try (conv => whnf))
  all_goals (try first|exact obA|refine Ob.mk ?_)
  all_goals (try (exfalso;have h : (!qLV s p) = false := ‹_›;rw [hh] at h;cases h))
  all_goals (try rfl)
 ·repeat' ((conv => whnf);first|exact qR|intro _|refine WA ?_ ?_|refine WF ?_|refine W1 rfl ?_ ?_|refine W2 rfl ?_ ?_|refine W3 rfl ?_ ?_|refine W4 ?_ ?_|refine W5 rfl ?_ ?_|refine W6 ?_ ?_|refine WN ?_|refine X1 (W1 rfl ?_ ?_)|refine X1 (W2 rfl ?_ ?_)|refine X2 (W7 rfl ?_ ?_)|refine X3 (W7 rfl ?_ ?_)|refine X4 (W7 rfl ?_ ?_)|refine X5 (W7 rfl ?_ ?_))
  all_goals (try (conv => whnf))
  all_goals (try first|exact obA|refine Ob.mk ?_)
  all_goals (try (exfalso;have h : (!qLV s p) = true := ‹_›;rw [hh] at h;cases h))
  all_goals (try rfl)
  all_goals (rw [hh];rfl)
def frL (s : List UInt8) : List UInt8 × Bool := (bif qLV s [35] then s.drop 1 else [],qLV s [35])
instance lFr (s : List UInt8) : Fn BB 69 [.str s] True (.tup [.str (frL s).1,.bool (frL s).2]) := by
 refine Fn.intro (N := 8) [0,2,3] [] Tryz.call69 Tryz.func69 rfl rfl (by kernel_rfl) (fun hpre => ?_)
 all_goals exact vcA
theorem qXN (c : UInt8) (r : List UInt8) : qLV (c :: r) [35] = (c == 35) := by
 unfold qLV
 have : decide (((c :: r).length : Int) ≥ (([35] : List UInt8).length : Int)) = true := by simp;omega
 rw [this]
 simp
instance lRFr (s : List UInt8) : Fn BB 44 [.str s] True (.tup [.str (frL s).1,.bool (frL s).2]) := by
  refine Fn.intro (N := 13) [0,2,3,10] [] Tryz.call44 Tryz.func44 rfl rfl (by kernel_rfl) (fun hpre => ?_)
  cases s with
  | nil =>
    repeat' ((conv => whnf);first|exact qR|intro _|refine WA ?_ ?_|refine WF ?_|refine W1 rfl ?_ ?_|refine W2 rfl ?_ ?_|refine W3 rfl ?_ ?_|refine W4 ?_ ?_|refine W5 rfl ?_ ?_|refine W6 ?_ ?_|refine WN ?_|refine X1 (W1 rfl ?_ ?_)|refine X1 (W2 rfl ?_ ?_)|refine X2 (W7 rfl ?_ ?_)|refine X3 (W7 rfl ?_ ?_)|refine X4 (W7 rfl ?_ ?_)|refine X5 (W7 rfl ?_ ?_))
    all_goals (try (conv => whnf))
    all_goals (try first|exact obA|refine Ob.mk ?_)
    all_goals (first | (exfalso;have h : (([] : List UInt8) == []) = false := ‹_›;cases h) | (exfalso;have h : ((([] : List UInt8) == []) || _) = false := ‹_›;cases h) | rfl)
  | cons c r =>
    have hc : ((c.toNat : Int) == 35) = (c == 35) := u8b c 35 (by decide)
    have he := qXN c r
    repeat' ((conv => whnf);first|exact qR|intro _|refine WA ?_ ?_|refine WF ?_|refine W1 rfl ?_ ?_|refine W2 rfl ?_ ?_|refine W3 rfl ?_ ?_|refine W4 ?_ ?_|refine W5 rfl ?_ ?_|refine W6 ?_ ?_|refine WN ?_|refine X1 (W1 rfl ?_ ?_)|refine X1 (W2 rfl ?_ ?_)|refine X2 (W7 rfl ?_ ?_)|refine X3 (W7 rfl ?_ ?_)|refine X4 (W7 rfl ?_ ?_)|refine X5 (W7 rfl ?_ ?_))
    all_goals (try (conv => whnf))
    all_goals (try first|exact obA|refine Ob.mk ?_)
    all_goals (try (constructor <;> simp <;> omega))
    all_goals (first
      | (have h := ‹(c :: r == [] || (((c :: r).getD (Int.toNat 0) 0).toNat : Int) != 35) = true›
         have h2 : (c == 35) = false := by
           have h3 : (((c :: r : List UInt8) == []) || !((c.toNat : Int) == 35)) = true := h
           rw [hc] at h3
           simpa using h3
         unfold frL
         rw [he,h2]
         try rfl)
      | (have h := ‹(c :: r == [] || (((c :: r).getD (Int.toNat 0) 0).toNat : Int) != 35) = false›
         have h2 : (c == 35) = true := by
           have h3 : (((c :: r : List UInt8) == []) || !((c.toNat : Int) == 35)) = false := h
           rw [hc] at h3
           simpa using h3
         unfold frL
         rw [he,h2]
         try rfl))
abbrev qPZ : List UInt8 := [102,111,114]
abbrev qUX : List UInt8 := [108,97,98,101,108]
abbrev qIX : List UInt8 := [108,105,115,116]
abbrev qFF : List UInt8 := [102,111,114,109]
abbrev qYC : List UInt8 := [97,114,105,97,45,97,99,116,105,118,101,100,101,115,99,101,110,100,97,110,116]
abbrev qaS : List UInt8 := [104,101,97,100,101,114,115]
abbrev qPQ : List UInt8 := [97,114,105,97,45,108,97,98,101,108,108,101,100,98,121]
abbrev qOV : List UInt8 := [97,114,105,97,45,100,101,115,99,114,105,98,101,100,98,121]
abbrev qLS : List UInt8 := [97,114,105,97,45,99,111,110,116,114,111,108,115]
abbrev qQP : List UInt8 := [97,114,105,97,45,111,119,110,115]
abbrev qT7 : List UInt8 := [117,115,101,109,97,112]
abbrev qNR : List UInt8 := [104,114,101,102]
abbrev qjR : List UInt8 := [100,97,116,97,108,105,115,116]
abbrev qY3 : List UInt8 := [109,97,112]
def qCN (k s : Int) (nn nm : List UInt8) : Int :=
 if qGD k s nn nm = false then 0 else if nm = qPZ then (if nn = qUX then 1 else 2)
 else if nm = qIX ∨ nm = qFF ∨ nm = qYC then 1
 else if nm = qaS ∨ nm = qPQ ∨ nm = qOV ∨ nm = qLS ∨ nm = qQP then 2
 else if nm = qT7 ∨ nm = qNR then 3 else 0
theorem qT3 {k s : Int} {nn nm : List UInt8} (h : qGD k s nn nm = false) : qCN k s nn nm = 0 := by rw [qCN,if_pos h]
theorem qSE {k s : Int} {nn nm : List UInt8} (h : ¬ k = 1) : qCN k s nn nm = 0 := qT3 (qVP h)
theorem qVO {k s : Int} {nn nm : List UInt8} (h : qGD k s nn nm = true) : qCN k s nn nm = (if nm = qPZ then (if nn = qUX then 1 else 2)
 else if nm = qIX ∨ nm = qFF ∨ nm = qYC then 1
 else if nm = qaS ∨ nm = qPQ ∨ nm = qOV ∨ nm = qLS ∨ nm = qQP then 2
 else if nm = qT7 ∨ nm = qNR then 3 else 0) := by rw [qCN,if_neg (by rw [h];decide)]
theorem qc0 {k s : Int} {nn : List UInt8} (h : qGD k s nn qPZ = true) : s = 0 := by
 by_cases hk : k = 1
 ·subst hk
  rw [qXQ (o := [108,97,98,101,108,32,111,117,116,112,117,116]) rfl] at h
  exact beq_iff_eq.1 (Bool.and_eq_true_iff.1 h).1
 ·rw [qVP hk] at h;cases h
instance rKind (k s : Int) (nn : List UInt8) (at_ : List qAJ.T) (dt : List UInt8) (up : Int) (kids : List Int) (nm : List UInt8) :
    Fn BB 39 [.agg [.int .i64 k,.int .i64 s,.str nn,.rd qAJ at_,.str dt,.int .i64 up,.rd qAI kids],.str nm] (nn.length ≤ 1000) (.int .i64 (qCN k s nn nm)) := by
  refine Fn.intro (N := 33) [0,1,2,4,13,14,15,19,20,24,30] [] Tryz.call39 Tryz.func39 rfl rfl (by kernel_rfl) (fun hpre => ?_)
  repeat' ((conv => whnf);first|exact qR|intro _|refine WA ?_ ?_|refine WF ?_|refine W1 rfl ?_ ?_|refine W2 rfl ?_ ?_|refine W3 rfl ?_ ?_|refine W4 ?_ ?_|refine W5 rfl ?_ ?_|refine W6 ?_ ?_|refine WN ?_|refine X1 (W1 rfl ?_ ?_)|refine X1 (W2 rfl ?_ ?_)|refine X2 (W7 rfl ?_ ?_)|refine X3 (W7 rfl ?_ ?_)|refine X4 (W7 rfl ?_ ?_)|refine X5 (W7 rfl ?_ ?_))
  all_goals (try (conv => whnf))
  all_goals (try first|exact obA|refine Ob.mk ?_)
  all_goals (try simp only [ZA,ZB,ZC,ZD,ZE,ZF,ZG,ZH,ZI,ZJ,ZK,ZL,ZM,ZN,ZO,Bool.and_eq_false_iff,Bool.or_eq_false_iff,ge_iff_le,gt_iff_lt,Int.toNat_natCast,UInt8.ofNat_toNat,cast_eq] at *)
  all_goals (try contradiction)
  all_goals (try (have h : ¬k = 1 ∨ qGD k s nn nm = false := by assumption
                  exact (h.elim qSE qT3).symm))
  all_goals (try (have hf : k = 1 ∧ qGD k s nn nm = true := by assumption
                  rw [qVO hf.2];simp [*];done))
instance rIs (k s : Int) (nn : List UInt8) (at_ : List qAJ.T) (dt : List UInt8) (up : Int) (kids : List Int) (nm : List UInt8) :
  Fn BB 46 [.agg [.int .i64 k,.int .i64 s,.str nn,.rd qAJ at_,.str dt,.int .i64 up,.rd qAI kids],.str nm] True (.bool (k == 1 && s == 0 && nn == nm)) := by
 refine Fn.intro (N := 19) [0,1,2,4] [] Tryz.call46 Tryz.func46 rfl rfl (by kernel_rfl) (fun hpre => ?_)
 repeat' ((conv => whnf);first|exact qR|intro _|refine WA ?_ ?_|refine WF ?_|refine W1 rfl ?_ ?_|refine W2 rfl ?_ ?_|refine W3 rfl ?_ ?_|refine W4 ?_ ?_|refine W5 rfl ?_ ?_|refine W6 ?_ ?_|refine WN ?_|refine X1 (W1 rfl ?_ ?_)|refine X1 (W2 rfl ?_ ?_)|refine X2 (W7 rfl ?_ ?_)|refine X3 (W7 rfl ?_ ?_)|refine X4 (W7 rfl ?_ ?_)|refine X5 (W7 rfl ?_ ?_))
 all_goals (try (conv => whnf))
 all_goals (try first|exact obA|refine Ob.mk ?_)
 all_goals (try rfl)
 all_goals trace_state
abbrev qgU : List UInt8 := [97,114,105,97,45,108,97,98,101,108,108,101,100,98,121,32,97,114,105,97,45,100,101,115,99,114,105,98,101,100,98,121,32,97,114,105,97,45,99,111,110,116,114,111,108,115,32,97,114,105,97,45,111,119,110,115]
theorem qe7 (nm : List UInt8) : (spl qgU).contains nm = true ↔ (nm = qPQ ∨ nm = qOV ∨ nm = qLS ∨ nm = qQP) := by
 rw [show spl qgU = [qPQ,qOV,qLS,qQP] from by decide +kernel]
 simp
instance rRKind (k s : Int) (nn : List UInt8) (at_ : List qAJ.T) (dt : List UInt8) (up : Int) (kids : List Int) (nm : List UInt8) :
    Fn BB 20 [.agg [.int .i64 k,.int .i64 s,.str nn,.rd qAJ at_,.str dt,.int .i64 up,.rd qAI kids],.str nm] (nn.length ≤ 1000) (.int .i64 (qCN k s nn nm)) := by
  refine Fn.intro (N := 48) [0,1,2,4,13,31,41,47] [] Tryz.call20 Tryz.func20 rfl rfl (by kernel_rfl) (fun hpre => ?_)
  have hma : (spl qgU).contains nm = decide (nm = qPQ ∨ nm = qOV ∨ nm = qLS ∨ nm = qQP) := by
    rw [Bool.eq_iff_iff,qe7,decide_eq_true_eq]
  repeat' ((conv => whnf);first|exact qR|intro _|refine WA ?_ ?_|refine WF ?_|refine W1 rfl ?_ ?_|refine W2 rfl ?_ ?_|refine W3 rfl ?_ ?_|refine W4 ?_ ?_|refine W5 rfl ?_ ?_|refine W6 ?_ ?_|refine WN ?_|refine X1 (W1 rfl ?_ ?_)|refine X1 (W2 rfl ?_ ?_)|refine X2 (W7 rfl ?_ ?_)|refine X3 (W7 rfl ?_ ?_)|refine X4 (W7 rfl ?_ ?_)|refine X5 (W7 rfl ?_ ?_))
  all_goals (try (conv => whnf))
  all_goals (try first|exact obA|refine Ob.mk ?_)
  all_goals (try simp only [ZA,ZB,ZC,ZD,ZE,ZF,ZG,ZH,ZI,ZJ,ZK,ZL,ZM,ZN,ZO,Bool.and_eq_false_iff,Bool.or_eq_false_iff,ge_iff_le,gt_iff_lt,Int.toNat_natCast,UInt8.ofNat_toNat,cast_eq] at *)
  all_goals (try contradiction)
  all_goals (try (have h : ¬k = 1 ∨ qGD k s nn nm = false := by assumption
                  exact (h.elim qSE qT3).symm))
  all_goals (
    obtain ⟨hk,hf⟩ : k = 1 ∧ qGD k s nn nm = true := by assumption
    subst hk
    have hs : nm = qPZ → s = 0 := fun e => by subst e;exact qc0 hf
    rw [qVO hf]
    clear hma hf
    try simp only [← Bool.not_eq_true,qe7] at *
    by_cases h1 : nm = qPZ
    · have h2 := hs h1
      subst h1
      simp_all
    · (try simp_all) <;> (try (intro p1 p2 p3;rcases (by assumption : (nm = qIX ∨ nm = qFF) ∨ nm = qYC) with (h | h) | h <;> contradiction)))
  all_goals trace_state
def qAP (kind : Int) (v : List UInt8) : List (List UInt8) :=
 if kind = 2 then spl v else if kind = 1 then (if v = [] then [] else [v]) else if kind = 3 then (if (frL v).1 = [] then [] else [(frL v).1]) else []
theorem qu8 {v : List UInt8} (h : (frL v).2 = false) : (frL v).1 = [] := by
 unfold frL at h ⊢
 show (bif qLV v [35] then _ else _) = _
 rw [show qLV v [35] = false from h];rfl
instance rWords (kind : Int) (v : List UInt8) : Fn BB 40 [.int .i64 kind,.str v] (v.length ≤ 100000) (.rd .str (qAP kind v)) := by
 refine Fn.intro (N := 23) [0,1,4,5,6,8,12,20] [] Tryz.call40 Tryz.func40 rfl rfl (by kernel_rfl) (fun hpre => ?_)
 repeat' ((conv => whnf);first|exact qR|intro _|refine WA ?_ ?_|refine WF ?_|refine W1 rfl ?_ ?_|refine W2 rfl ?_ ?_|refine W3 rfl ?_ ?_|refine W4 ?_ ?_|refine W5 rfl ?_ ?_|refine W6 ?_ ?_|refine WN ?_|refine X1 (W1 rfl ?_ ?_)|refine X1 (W2 rfl ?_ ?_)|refine X2 (W7 rfl ?_ ?_)|refine X3 (W7 rfl ?_ ?_)|refine X4 (W7 rfl ?_ ?_)|refine X5 (W7 rfl ?_ ?_))
 all_goals (try (conv => whnf))
 all_goals (try first|exact obA|refine Ob.mk ?_)
 all_goals (try simp only [ZA,ZB,ZC,ZD,ZE,ZF,ZG,ZH,ZI,ZJ,ZK,ZL,ZM,ZN,ZO,Bool.and_eq_false_iff,Bool.or_eq_false_iff,ge_iff_le,gt_iff_lt,Int.toNat_natCast,UInt8.ofNat_toNat,cast_eq] at *)
 all_goals (first | (simp [qAP, *];done) | (show SV.rd Ty.str _ = _;simp [qAP, *];done) | trace_state)
instance rRWords (kind : Int) (v : List UInt8) : Fn BB 19 [.int .i64 kind,.str v] (v.length ≤ 100000) (.rd .str (qAP kind v)) := by
 refine Fn.intro (N := 35) [0,1,4,5,6,12,16,32] [] Tryz.call19 Tryz.func19 rfl rfl (by kernel_rfl) (fun hpre => ?_)
 repeat' ((conv => whnf);first|exact qR|intro _|refine WA ?_ ?_|refine WF ?_|refine W1 rfl ?_ ?_|refine W2 rfl ?_ ?_|refine W3 rfl ?_ ?_|refine W4 ?_ ?_|refine W5 rfl ?_ ?_|refine W6 ?_ ?_|refine WN ?_|refine X1 (W1 rfl ?_ ?_)|refine X1 (W2 rfl ?_ ?_)|refine X2 (W7 rfl ?_ ?_)|refine X3 (W7 rfl ?_ ?_)|refine X4 (W7 rfl ?_ ?_)|refine X5 (W7 rfl ?_ ?_))
 all_goals (try (conv => whnf))
 all_goals (try first|exact obA|refine Ob.mk ?_)
 all_goals (try simp only [ZA,ZB,ZC,ZD,ZE,ZF,ZG,ZH,ZI,ZJ,ZK,ZL,ZM,ZN,ZO,Bool.and_eq_false_iff,Bool.or_eq_false_iff,ge_iff_le,gt_iff_lt,Int.toNat_natCast,UInt8.ofNat_toNat,cast_eq] at *)
 all_goals (try (
  have h3 : kind = 3 → (frL v).1 = [] := fun e => by
   rcases (by assumption : (¬kind = 3 ∨ (frL v).snd = false) ∨ (frL v).fst = []) with (h | h) | h
   ·exact absurd e h
   ·exact qu8 h
   ·exact h
  have h1 : kind = 1 → v = [] := fun e => (by assumption : ¬kind = 1 ∨ v = []).resolve_left (fun h => h e)
  unfold qAP
  rw [if_neg (by assumption)]
  split
  ·rw [if_pos (h1 (by assumption))]
  ·split
   ·rw [if_pos (h3 (by assumption))]
   ·rfl))
 all_goals (first | (simp [qAP, *];done) | (show SV.rd Ty.str _ = _;simp [qAP, *];done) | trace_state)
end Go.Vc
