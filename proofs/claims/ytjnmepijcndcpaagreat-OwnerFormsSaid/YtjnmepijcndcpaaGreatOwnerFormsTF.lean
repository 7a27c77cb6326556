/- A part of the proof: lemmas and walks that the last text of the claim joins; no condition. -/
import Derived.Test.YtjnmepijcndcpaaGreatOwnerFormsVE
import Derived.Laws.Externs
import Derived.Test.YtjnmepijcndcpaaGreatProg
import Derived.Shelf.Spec.SlicesInsert
import Derived.Shelf.Spec.SlicesInsertGrow
import Derived.Shelf.Strings.Builder1
import Derived.Shelf.Strings.Builder2
import Derived.Shelf.Strings.OnBuilder
import Derived.Shelf.Strings.BuilderF
import Derived.Shelf.Strings.BuilderK
import Derived.Shelf.Strings.Builder2Cap
import Derived.Shelf.Strings.Search1
import Derived.Shelf.Strings.Search2
import Derived.Shelf.Strings.Search3
import Derived.Shelf.LaysM
import Derived.Shelf.Strings.Shaped
import Derived.Shelf.Strings.Prefix
import Derived.Shelf.Strings.FieldsFuncAny
import Derived.Shelf.Slices.Turned
import Derived.Shelf.Slices.Equal
import Derived.Ground.Names2Prog
import Derived.Shelf.Slices.Clone
import Derived.Shelf.Slices.Empties2
import Derived.Ground.SlgnProg
import Derived.Shelf.SlicesE.Clone
import Derived.Shelf.Slices.Delete
import Derived.Shelf.Slices.Cells
import Derived.Shelf.Slices.Empties
import Derived.Shelf.Spec.SlicesGrow
import Derived.Laws.AppendOwn
set_option linter.unusedVariables false
set_option linter.unusedSimpArgs false
set_option maxHeartbeats 8000000
namespace Go.Vc
open Go.Proofs
theorem mixed : Tryz.prog.follows .mixedOrders = true := by kernel_rfl
abbrev qAI : Ty := .int .i64
abbrev qfD : Ty := .pr qAI qAI
abbrev qAX : Ty := .pr .str .str
abbrev qvX : Ty := .pr qAI (.pr .str (.pr (.sl qAX) (.pr .bool .str)))
abbrev qAC : Ty := .pr qAI (.pr qAI (.pr .str (.pr (.sl qAX) (.pr .str (.pr qAI (.sl qAI))))))
abbrev quH : Ty := .pr qAI (.pr .str (.pr qAI (.pr .str qAI)))
def tyB (t : TypeId) : Option Ty :=
 bif Nat.beq t 3 then some qAI else bif Nat.beq t 4 then some .bool else bif Nat.beq t 5 then some .byte else bif Nat.beq t 9 then some .str else bif Nat.beq t 54 then some qAX else bif Nat.beq t 49 then some qAC else bif Nat.beq t 200 then some qfD else bif Nat.beq t 164 then some qvX else bif Nat.beq t 26 then some (.sl .str) else bif Nat.beq t 172 then some qfD else bif Nat.beq t 83 then some .cpx else bif Nat.beq t 130 then some .flt else bif Nat.beq t 69 then some quH else bif Nat.beq t 150 then some .str else none
def qxG (t : TypeId) : Bool := Nat.beq t 54 || Nat.beq t 69
theorem qdP : ∀ t, qxG t = true → Tryz.prog.stoodInHeld t = false ∧ Tryz.prog.eqGuardType Tryz.prog.depth t = false ∧ ((Tryz.prog.fieldsOf t).toList.all fun f => f.name != "_") = true := by
 intro t h
 rcases Bool.or_eq_true_iff.1 h with h | h
 all_goals (obtain rfl := qAJ h;exact ⟨by kernel_rfl,by kernel_rfl,by kernel_rfl⟩)
def neB (f : FuncId) : Bool := Nat.beq f 255
theorem qf4 : ∀ f,neB f = true → ∀ (x : Value) (w : World),(callFunc f #[x]).run Tryz.prog w = .ok (.value x) w := by
 intro f h x w
 obtain rfl := qAJ h
 rw [run_callFunc_extern Tryz.func255 (by kernel_rfl) (by kernel_rfl) (by kernel_rfl) (e := Extern.AbiNoEscape.same) (by kernel_rfl)]
 rfl
def tbB (t : TypeId) : Bool := Nat.beq t 191
noncomputable abbrev BB : Base := { P := Tryz.prog,mixed := mixed,G := fun r => ∃ c T fr m,r 0 = some (.cells c T fr) ∧ c[0]? = some (.int .i64 m),mono := fun r r' h ⟨c,T,fr,m,h1,h2⟩ => ⟨c,T,fr,m,h 0 _ h1,h2⟩,ty0 := tyB,eqs := qxG,eqs_ok := qdP,ne := neB,ne_ok := qf4,tb := tbB }
set_option maxRecDepth 10000
@[simp] theorem qxJ : qAA Tryz.prog 1 = 8 := rfl
@[simp] theorem qxA : qAA BB.P 1 = 8 := rfl
@[simp] theorem qxN : qAA Tryz.prog 2 = 8 := rfl
@[simp] theorem quZ : qAA BB.P 2 = 8 := rfl
@[simp] theorem bytes3 : qAA Tryz.prog 3 = 8 := rfl
@[simp] theorem qWQ : qAA BB.P 3 = 8 := rfl
@[simp] theorem bytes4 : qAA Tryz.prog 4 = 1 := rfl
@[simp] theorem quW : qAA BB.P 4 = 1 := rfl
@[simp] theorem bytes5 : qAA Tryz.prog 5 = 1 := rfl
@[simp] theorem qt7 : qAA BB.P 5 = 1 := rfl
@[simp] theorem qxS : qAA Tryz.prog 6 = 1 := rfl
@[simp] theorem qu0 : qAA BB.P 6 = 1 := rfl
@[simp] theorem qxR : qAA Tryz.prog 7 = 24 := rfl
@[simp] theorem qwQ : qAA BB.P 7 = 24 := rfl
@[simp] theorem qxQ : qAA Tryz.prog 8 = 24 := rfl
@[simp] theorem qwK : qAA BB.P 8 = 24 := rfl
@[simp] theorem bytes9 : qAA Tryz.prog 9 = 16 := rfl
@[simp] theorem qvH : qAA BB.P 9 = 16 := rfl
@[simp] theorem qvK : qAA Tryz.prog 10 = 16 := rfl
@[simp] theorem qq0 : qAA BB.P 10 = 16 := rfl
@[simp] theorem quB : qAA Tryz.prog 11 = 16 := rfl
@[simp] theorem qsJ : qAA BB.P 11 = 16 := rfl
@[simp] theorem qvQ : qAA Tryz.prog 12 = 8 := rfl
@[simp] theorem qoA : qAA BB.P 12 = 8 := rfl
@[simp] theorem quC : qAA Tryz.prog 13 = 24 := rfl
@[simp] theorem qn4 : qAA BB.P 13 = 24 := rfl
@[simp] theorem qwP : qAA Tryz.prog 14 = 24 := rfl
@[simp] theorem qo7 : qAA BB.P 14 = 24 := rfl
@[simp] theorem qwV : qAA Tryz.prog 15 = 8 := rfl
@[simp] theorem qn3 : qAA BB.P 15 = 8 := rfl
@[simp] theorem qw4 : qAA Tryz.prog 16 = 8 := rfl
@[simp] theorem qpF : qAA BB.P 16 = 8 := rfl
@[simp] theorem qtY : qAA Tryz.prog 17 = 8 := rfl
@[simp] theorem qrH : qAA BB.P 17 = 8 := rfl
@[simp] theorem qv3 : qAA Tryz.prog 18 = 8 := rfl
@[simp] theorem qsH : qAA BB.P 18 = 8 := rfl
@[simp] theorem qu3 : qAA Tryz.prog 19 = 8 := rfl
@[simp] theorem qsI : qAA BB.P 19 = 8 := rfl
@[simp] theorem qv7 : qAA Tryz.prog 20 = 16 := rfl
@[simp] theorem qqX : qAA BB.P 20 = 16 := rfl
@[simp] theorem bytes21 : qAA Tryz.prog 21 = 4 := rfl
@[simp] theorem qmF : qAA BB.P 21 = 4 := rfl
@[simp] theorem qvL : qAA Tryz.prog 22 = 24 := rfl
@[simp] theorem qs4 : qAA BB.P 22 = 24 := rfl
@[simp] theorem bytes23 : qAA Tryz.prog 23 = 24 := rfl
@[simp] theorem qs3 : qAA BB.P 23 = 24 := rfl
@[simp] theorem qvR : qAA Tryz.prog 24 = 24 := rfl
@[simp] theorem qtC : qAA BB.P 24 = 24 := rfl
@[simp] theorem bytes25 : qAA Tryz.prog 25 = 24 := rfl
@[simp] theorem qsW : qAA BB.P 25 = 24 := rfl
@[simp] theorem bytes26 : qAA Tryz.prog 26 = 24 := rfl
@[simp] theorem qtJ : qAA BB.P 26 = 24 := rfl
@[simp] theorem bytes27 : qAA Tryz.prog 27 = 88 := rfl
@[simp] theorem qsL : qAA BB.P 27 = 88 := rfl
@[simp] theorem bytes28 : qAA Tryz.prog 28 = 88 := rfl
@[simp] theorem qnS : qAA BB.P 28 = 88 := rfl
@[simp] theorem quI : qAA Tryz.prog 29 = 8 := rfl
@[simp] theorem qqB : qAA BB.P 29 = 8 := rfl
@[simp] theorem bytes30 : qAA Tryz.prog 30 = 8 := rfl
@[simp] theorem qn5 : qAA BB.P 30 = 8 := rfl
@[simp] theorem qu1 : qAA Tryz.prog 31 = 8 := rfl
@[simp] theorem qoX : qAA BB.P 31 = 8 := rfl
@[simp] theorem qw8 : qAA Tryz.prog 32 = 24 := rfl
@[simp] theorem qpT : qAA BB.P 32 = 24 := rfl
@[simp] theorem qwU : qAA Tryz.prog 33 = 8 := rfl
@[simp] theorem qr0 : qAA BB.P 33 = 8 := rfl
@[simp] theorem qv4 : qAA Tryz.prog 34 = 8 := rfl
@[simp] theorem qnA : qAA BB.P 34 = 8 := rfl
@[simp] theorem quS : qAA Tryz.prog 35 = 8 := rfl
@[simp] theorem qmX : qAA BB.P 35 = 8 := rfl
@[simp] theorem qvO : qAA Tryz.prog 36 = 8 := rfl
@[simp] theorem qoI : qAA BB.P 36 = 8 := rfl
@[simp] theorem qtZ : qAA Tryz.prog 37 = 8 := rfl
@[simp] theorem qpN : qAA BB.P 37 = 8 := rfl
@[simp] theorem qtW : qAA Tryz.prog 38 = 8 := rfl
@[simp] theorem qo0 : qAA BB.P 38 = 8 := rfl
@[simp] theorem qwC : qAA Tryz.prog 39 = 8 := rfl
@[simp] theorem qm4 : qAA BB.P 39 = 8 := rfl
@[simp] theorem qvA : qAA Tryz.prog 40 = 8 := rfl
@[simp] theorem qpG : qAA BB.P 40 = 8 := rfl
@[simp] theorem qwL : qAA Tryz.prog 41 = 8 := rfl
@[simp] theorem qqL : qAA BB.P 41 = 8 := rfl
@[simp] theorem qvT : qAA Tryz.prog 42 = 8 := rfl
@[simp] theorem qoJ : qAA BB.P 42 = 8 := rfl
@[simp] theorem qvU : qAA Tryz.prog 43 = 8 := rfl
@[simp] theorem qr7 : qAA BB.P 43 = 8 := rfl
@[simp] theorem quQ : qAA Tryz.prog 44 = 8 := rfl
@[simp] theorem qtI : qAA BB.P 44 = 8 := rfl
@[simp] theorem quF : qAA Tryz.prog 45 = 8 := rfl
@[simp] theorem qrJ : qAA BB.P 45 = 8 := rfl
@[simp] theorem qvD : qAA Tryz.prog 46 = 8 := rfl
@[simp] theorem qq5 : qAA BB.P 46 = 8 := rfl
@[simp] theorem qt5 : qAA Tryz.prog 47 = 24 := rfl
@[simp] theorem qqV : qAA BB.P 47 = 24 := rfl
@[simp] theorem qt1 : qAA Tryz.prog 48 = 104 := rfl
@[simp] theorem qpL : qAA BB.P 48 = 104 := rfl
@[simp] theorem qWK : qAA Tryz.prog 49 = 104 := rfl
@[simp] theorem qTZ : qAA BB.P 49 = 104 := rfl
@[simp] theorem qvY : qAA Tryz.prog 50 = 8 := rfl
@[simp] theorem qqH : qAA BB.P 50 = 8 := rfl
@[simp] theorem quK : qAA Tryz.prog 51 = 8 := rfl
@[simp] theorem qm8 : qAA BB.P 51 = 8 := rfl
@[simp] theorem qwS : qAA Tryz.prog 52 = 8 := rfl
@[simp] theorem qtO : qAA BB.P 52 = 8 := rfl
@[simp] theorem qvE : qAA Tryz.prog 53 = 32 := rfl
@[simp] theorem qpP : qAA BB.P 53 = 32 := rfl
@[simp] theorem qWZ : qAA Tryz.prog 54 = 32 := rfl
@[simp] theorem qT4 : qAA BB.P 54 = 32 := rfl
@[simp] theorem qvJ : qAA Tryz.prog 55 = 8 := rfl
@[simp] theorem qo2 : qAA BB.P 55 = 8 := rfl
@[simp] theorem qt6 : qAA Tryz.prog 56 = 8 := rfl
@[simp] theorem qrS : qAA BB.P 56 = 8 := rfl
@[simp] theorem qt8 : qAA Tryz.prog 57 = 8 := rfl
@[simp] theorem qp3 : qAA BB.P 57 = 8 := rfl
@[simp] theorem qvS : qAA Tryz.prog 58 = 8 := rfl
@[simp] theorem qqQ : qAA BB.P 58 = 8 := rfl
@[simp] theorem qv8 : qAA Tryz.prog 59 = 8 := rfl
@[simp] theorem qo8 : qAA BB.P 59 = 8 := rfl
@[simp] theorem quT : qAA Tryz.prog 60 = 8 := rfl
@[simp] theorem qs2 : qAA BB.P 60 = 8 := rfl
@[simp] theorem qwY : qAA Tryz.prog 61 = 8 := rfl
@[simp] theorem qpE : qAA BB.P 61 = 8 := rfl
@[simp] theorem qxC : qAA Tryz.prog 62 = 8 := rfl
@[simp] theorem qqP : qAA BB.P 62 = 8 := rfl
@[simp] theorem quE : qAA Tryz.prog 63 = 8 := rfl
@[simp] theorem qq9 : qAA BB.P 63 = 8 := rfl
@[simp] theorem qu2 : qAA Tryz.prog 64 = 8 := rfl
@[simp] theorem qtS : qAA BB.P 64 = 8 := rfl
@[simp] theorem qw2 : qAA Tryz.prog 65 = 24 := rfl
@[simp] theorem qoD : qAA BB.P 65 = 24 := rfl
@[simp] theorem qwJ : qAA Tryz.prog 66 = 8 := rfl
@[simp] theorem qqE : qAA BB.P 66 = 8 := rfl
@[simp] theorem qv6 : qAA Tryz.prog 67 = 8 := rfl
@[simp] theorem qs9 : qAA BB.P 67 = 8 := rfl
@[simp] theorem qxB : qAA Tryz.prog 68 = 56 := rfl
@[simp] theorem qnK : qAA BB.P 68 = 56 := rfl
@[simp] theorem qv2 : qAA Tryz.prog 69 = 56 := rfl
@[simp] theorem qoN : qAA BB.P 69 = 56 := rfl
@[simp] theorem quY : qAA Tryz.prog 70 = 8 := rfl
@[simp] theorem qr6 : qAA BB.P 70 = 8 := rfl
@[simp] theorem quL : qAA Tryz.prog 71 = 24 := rfl
@[simp] theorem qqW : qAA BB.P 71 = 24 := rfl
@[simp] theorem qt3 : qAA Tryz.prog 72 = 104 := rfl
@[simp] theorem qqD : qAA BB.P 72 = 104 := rfl
@[simp] theorem quV : qAA Tryz.prog 73 = 104 := rfl
@[simp] theorem qmE : qAA BB.P 73 = 104 := rfl
@[simp] theorem qvN : qAA Tryz.prog 74 = 8 := rfl
@[simp] theorem qqG : qAA BB.P 74 = 8 := rfl
@[simp] theorem qwR : qAA Tryz.prog 75 = 8 := rfl
@[simp] theorem qqC : qAA BB.P 75 = 8 := rfl
@[simp] theorem quU : qAA Tryz.prog 76 = 8 := rfl
@[simp] theorem qoV : qAA BB.P 76 = 8 := rfl
@[simp] theorem qwB : qAA Tryz.prog 78 = 8 := rfl
@[simp] theorem qsZ : qAA BB.P 78 = 8 := rfl
@[simp] theorem quP : qAA Tryz.prog 79 = 24 := rfl
@[simp] theorem qp9 : qAA BB.P 79 = 24 := rfl
@[simp] theorem qwH : qAA Tryz.prog 80 = 8 := rfl
@[simp] theorem qqT : qAA BB.P 80 = 8 := rfl
@[simp] theorem qv1 : qAA Tryz.prog 81 = 8 := rfl
@[simp] theorem qoF : qAA BB.P 81 = 8 := rfl
@[simp] theorem qu8 : qAA Tryz.prog 82 = 8 := rfl
@[simp] theorem qo3 : qAA BB.P 82 = 8 := rfl
@[simp] theorem quD : qAA Tryz.prog 83 = 16 := rfl
@[simp] theorem qrI : qAA BB.P 83 = 16 := rfl
@[simp] theorem qu7 : qAA Tryz.prog 84 = 8 := rfl
@[simp] theorem qqU : qAA BB.P 84 = 8 := rfl
@[simp] theorem qw7 : qAA Tryz.prog 85 = 8 := rfl
@[simp] theorem qrN : qAA BB.P 85 = 8 := rfl
@[simp] theorem qt2 : qAA Tryz.prog 86 = 8 := rfl
@[simp] theorem qsS : qAA BB.P 86 = 8 := rfl
@[simp] theorem quN : qAA Tryz.prog 87 = 8 := rfl
@[simp] theorem qsM : qAA BB.P 87 = 8 := rfl
@[simp] theorem qv0 : qAA Tryz.prog 88 = 8 := rfl
@[simp] theorem qnW : qAA BB.P 88 = 8 := rfl
@[simp] theorem qvF : qAA Tryz.prog 89 = 8 := rfl
@[simp] theorem qs8 : qAA BB.P 89 = 8 := rfl
@[simp] theorem qwM : qAA Tryz.prog 90 = 8 := rfl
@[simp] theorem qtF : qAA BB.P 90 = 8 := rfl
@[simp] theorem qu5 : qAA Tryz.prog 91 = 8 := rfl
@[simp] theorem qmJ : qAA BB.P 91 = 8 := rfl
@[simp] theorem qvG : qAA Tryz.prog 92 = 8 := rfl
@[simp] theorem qpJ : qAA BB.P 92 = 8 := rfl
@[simp] theorem qvZ : qAA Tryz.prog 93 = 8 := rfl
@[simp] theorem qnB : qAA BB.P 93 = 8 := rfl
@[simp] theorem quJ : qAA Tryz.prog 94 = 8 := rfl
@[simp] theorem qp0 : qAA BB.P 94 = 8 := rfl
@[simp] theorem qwT : qAA Tryz.prog 95 = 24 := rfl
@[simp] theorem qo9 : qAA BB.P 95 = 24 := rfl
@[simp] theorem quO : qAA Tryz.prog 96 = 8 := rfl
@[simp] theorem qtT : qAA BB.P 96 = 8 := rfl
@[simp] theorem qwN : qAA Tryz.prog 97 = 8 := rfl
@[simp] theorem qnU : qAA BB.P 97 = 8 := rfl
@[simp] theorem qvM : qAA Tryz.prog 98 = 8 := rfl
@[simp] theorem qmU : qAA BB.P 98 = 8 := rfl
@[simp] theorem qvV : qAA Tryz.prog 99 = 8 := rfl
@[simp] theorem qnJ : qAA BB.P 99 = 8 := rfl
@[simp] theorem qnY : qAA Tryz.prog 100 = 8 := rfl
@[simp] theorem qhZ : qAA BB.P 100 = 8 := rfl
@[simp] theorem qtD : qAA Tryz.prog 102 = 8 := rfl
@[simp] theorem qlB : qAA BB.P 102 = 8 := rfl
@[simp] theorem qoB : qAA Tryz.prog 103 = 8 := rfl
@[simp] theorem qiX : qAA BB.P 103 = 8 := rfl
@[simp] theorem qtE : qAA Tryz.prog 104 = 8 := rfl
@[simp] theorem qfP : qAA BB.P 104 = 8 := rfl
@[simp] theorem qr5 : qAA Tryz.prog 105 = 8 := rfl
@[simp] theorem qjZ : qAA BB.P 105 = 8 := rfl
@[simp] theorem qoW : qAA Tryz.prog 106 = 8 := rfl
@[simp] theorem ql9 : qAA BB.P 106 = 8 := rfl
@[simp] theorem qtU : qAA Tryz.prog 107 = 8 := rfl
@[simp] theorem qh1 : qAA BB.P 107 = 8 := rfl
@[simp] theorem qoR : qAA Tryz.prog 108 = 8 := rfl
@[simp] theorem qkA : qAA BB.P 108 = 8 := rfl
@[simp] theorem qoT : qAA Tryz.prog 109 = 8 := rfl
@[simp] theorem qi8 : qAA BB.P 109 = 8 := rfl
@[simp] theorem qoZ : qAA Tryz.prog 110 = 8 := rfl
@[simp] theorem qiF : qAA BB.P 110 = 8 := rfl
@[simp] theorem qoM : qAA Tryz.prog 111 = 8 := rfl
@[simp] theorem ql6 : qAA BB.P 111 = 8 := rfl
@[simp] theorem qmK : qAA Tryz.prog 112 = 8 := rfl
@[simp] theorem qiZ : qAA BB.P 112 = 8 := rfl
@[simp] theorem qn8 : qAA Tryz.prog 113 = 8 := rfl
@[simp] theorem qhB : qAA BB.P 113 = 8 := rfl
@[simp] theorem qsG : qAA Tryz.prog 114 = 8 := rfl
@[simp] theorem qiC : qAA BB.P 114 = 8 := rfl
@[simp] theorem qmI : qAA Tryz.prog 115 = 8 := rfl
@[simp] theorem qhJ : qAA BB.P 115 = 8 := rfl
@[simp] theorem qr1 : qAA Tryz.prog 116 = 8 := rfl
@[simp] theorem qfR : qAA BB.P 116 = 8 := rfl
@[simp] theorem qmV : qAA Tryz.prog 117 = 8 := rfl
@[simp] theorem qjC : qAA BB.P 117 = 8 := rfl
@[simp] theorem qpQ : qAA Tryz.prog 118 = 48 := rfl
@[simp] theorem qjF : qAA BB.P 118 = 48 := rfl
@[simp] theorem qsA : qAA Tryz.prog 119 = 48 := rfl
@[simp] theorem qkJ : qAA BB.P 119 = 48 := rfl
@[simp] theorem qrG : qAA Tryz.prog 120 = 8 := rfl
@[simp] theorem qg5 : qAA BB.P 120 = 8 := rfl
@[simp] theorem qrV : qAA Tryz.prog 121 = 8 := rfl
@[simp] theorem qiD : qAA BB.P 121 = 8 := rfl
@[simp] theorem qs6 : qAA Tryz.prog 122 = 8 := rfl
@[simp] theorem qfW : qAA BB.P 122 = 8 := rfl
@[simp] theorem qm1 : qAA Tryz.prog 123 = 136 := rfl
@[simp] theorem qlQ : qAA BB.P 123 = 136 := rfl
@[simp] theorem qsD : qAA Tryz.prog 124 = 136 := rfl
@[simp] theorem qkF : qAA BB.P 124 = 136 := rfl
@[simp] theorem qm5 : qAA Tryz.prog 126 = 8 := rfl
@[simp] theorem qlV : qAA BB.P 126 = 8 := rfl
@[simp] theorem qqJ : qAA Tryz.prog 127 = 8 := rfl
@[simp] theorem qfQ : qAA BB.P 127 = 8 := rfl
@[simp] theorem qtV : qAA Tryz.prog 128 = 8 := rfl
@[simp] theorem qjH : qAA BB.P 128 = 8 := rfl
@[simp] theorem qr2 : qAA Tryz.prog 129 = 8 := rfl
@[simp] theorem qlE : qAA BB.P 129 = 8 := rfl
@[simp] theorem qqY : qAA Tryz.prog 130 = 8 := rfl
@[simp] theorem qkG : qAA BB.P 130 = 8 := rfl
@[simp] theorem qtH : qAA Tryz.prog 131 = 32 := rfl
@[simp] theorem qhI : qAA BB.P 131 = 32 := rfl
@[simp] theorem qs7 : qAA Tryz.prog 132 = 32 := rfl
@[simp] theorem qiQ : qAA BB.P 132 = 32 := rfl
@[simp] theorem qpI : qAA Tryz.prog 133 = 8 := rfl
@[simp] theorem qf9 : qAA BB.P 133 = 8 := rfl
@[simp] theorem qs5 : qAA Tryz.prog 134 = 8 := rfl
@[simp] theorem qgZ : qAA BB.P 134 = 8 := rfl
@[simp] theorem qpZ : qAA Tryz.prog 135 = 8 := rfl
@[simp] theorem qhU : qAA BB.P 135 = 8 := rfl
@[simp] theorem qm9 : qAA Tryz.prog 136 = 8 := rfl
@[simp] theorem qk4 : qAA BB.P 136 = 8 := rfl
@[simp] theorem qoL : qAA Tryz.prog 137 = 8 := rfl
@[simp] theorem qg8 : qAA BB.P 137 = 8 := rfl
@[simp] theorem qoS : qAA Tryz.prog 138 = 8 := rfl
@[simp] theorem qiE : qAA BB.P 138 = 8 := rfl
@[simp] theorem qoU : qAA Tryz.prog 139 = 8 := rfl
@[simp] theorem qjJ : qAA BB.P 139 = 8 := rfl
@[simp] theorem qq4 : qAA Tryz.prog 140 = 8 := rfl
@[simp] theorem qkL : qAA BB.P 140 = 8 := rfl
@[simp] theorem qmS : qAA Tryz.prog 141 = 8 := rfl
@[simp] theorem qlM : qAA BB.P 141 = 8 := rfl
@[simp] theorem qmP : qAA Tryz.prog 142 = 8 := rfl
@[simp] theorem qiU : qAA BB.P 142 = 8 := rfl
@[simp] theorem qnZ : qAA Tryz.prog 143 = 8 := rfl
@[simp] theorem qhF : qAA BB.P 143 = 8 := rfl
@[simp] theorem qm7 : qAA Tryz.prog 144 = 8 := rfl
@[simp] theorem qfM : qAA BB.P 144 = 8 := rfl
@[simp] theorem qpW : qAA Tryz.prog 145 = 8 := rfl
@[simp] theorem qjL : qAA BB.P 145 = 8 := rfl
@[simp] theorem qn7 : qAA Tryz.prog 146 = 8 := rfl
@[simp] theorem qlY : qAA BB.P 146 = 8 := rfl
@[simp] theorem qmO : qAA Tryz.prog 147 = 8 := rfl
@[simp] theorem qgW : qAA BB.P 147 = 8 := rfl
@[simp] theorem qoO : qAA Tryz.prog 148 = 8 := rfl
@[simp] theorem qk5 : qAA BB.P 148 = 8 := rfl
@[simp] theorem qrX : qAA Tryz.prog 149 = 16 := rfl
@[simp] theorem qfY : qAA BB.P 149 = 16 := rfl
@[simp] theorem qn2 : qAA Tryz.prog 150 = 16 := rfl
@[simp] theorem qiT : qAA BB.P 150 = 16 := rfl
@[simp] theorem qtP : qAA Tryz.prog 152 = 8 := rfl
@[simp] theorem qgB : qAA BB.P 152 = 8 := rfl
@[simp] theorem qrW : qAA Tryz.prog 153 = 8 := rfl
@[simp] theorem qj5 : qAA BB.P 153 = 8 := rfl
@[simp] theorem qqM : qAA Tryz.prog 154 = 8 := rfl
@[simp] theorem qgK : qAA BB.P 154 = 8 := rfl
@[simp] theorem qr4 : qAA Tryz.prog 155 = 8 := rfl
@[simp] theorem qkK : qAA BB.P 155 = 8 := rfl
@[simp] theorem qoC : qAA Tryz.prog 156 = 8 := rfl
@[simp] theorem qh2 : qAA BB.P 156 = 8 := rfl
@[simp] theorem qqZ : qAA Tryz.prog 157 = 8 := rfl
@[simp] theorem qfZ : qAA BB.P 157 = 8 := rfl
@[simp] theorem qq7 : qAA Tryz.prog 158 = 8 := rfl
@[simp] theorem qhX : qAA BB.P 158 = 8 := rfl
@[simp] theorem qmH : qAA Tryz.prog 159 = 8 := rfl
@[simp] theorem qf0 : qAA BB.P 159 = 8 := rfl
@[simp] theorem qo1 : qAA Tryz.prog 160 = 8 := rfl
@[simp] theorem qk7 : qAA BB.P 160 = 8 := rfl
@[simp] theorem qq8 : qAA Tryz.prog 161 = 16 := rfl
@[simp] theorem qiK : qAA BB.P 161 = 16 := rfl
@[simp] theorem qmG : qAA Tryz.prog 162 = 16 := rfl
@[simp] theorem qi4 : qAA BB.P 162 = 16 := rfl
@[simp] theorem qpK : qAA Tryz.prog 163 = 72 := rfl
@[simp] theorem qiY : qAA BB.P 163 = 72 := rfl
@[simp] theorem qtM : qAA Tryz.prog 164 = 72 := rfl
@[simp] theorem qkX : qAA BB.P 164 = 72 := rfl
@[simp] theorem qm0 : qAA Tryz.prog 165 = 8 := rfl
@[simp] theorem qj6 : qAA BB.P 165 = 8 := rfl
@[simp] theorem qr9 : qAA Tryz.prog 166 = 8 := rfl
@[simp] theorem qjK : qAA BB.P 166 = 8 := rfl
@[simp] theorem qo5 : qAA Tryz.prog 167 = 8 := rfl
@[simp] theorem qgQ : qAA BB.P 167 = 8 := rfl
@[simp] theorem qnF : qAA Tryz.prog 169 = 8 := rfl
@[simp] theorem qfO : qAA BB.P 169 = 8 := rfl
@[simp] theorem qn9 : qAA Tryz.prog 170 = 8 := rfl
@[simp] theorem qjM : qAA BB.P 170 = 8 := rfl
@[simp] theorem qsX : qAA Tryz.prog 171 = 16 := rfl
@[simp] theorem qiN : qAA BB.P 171 = 16 := rfl
@[simp] theorem qoP : qAA Tryz.prog 172 = 16 := rfl
@[simp] theorem qkR : qAA BB.P 172 = 16 := rfl
@[simp] theorem qrY : qAA Tryz.prog 173 = 24 := rfl
@[simp] theorem qhH : qAA BB.P 173 = 24 := rfl
@[simp] theorem qqF : qAA Tryz.prog 174 = 8 := rfl
@[simp] theorem ql4 : qAA BB.P 174 = 8 := rfl
@[simp] theorem qnE : qAA Tryz.prog 175 = 8 := rfl
@[simp] theorem qh5 : qAA BB.P 175 = 8 := rfl
@[simp] theorem qtL : qAA Tryz.prog 176 = 8 := rfl
@[simp] theorem qh7 : qAA BB.P 176 = 8 := rfl
@[simp] theorem qr8 : qAA Tryz.prog 177 = 8 := rfl
@[simp] theorem qgH : qAA BB.P 177 = 8 := rfl
@[simp] theorem qq1 : qAA Tryz.prog 178 = 24 := rfl
@[simp] theorem qlJ : qAA BB.P 178 = 24 := rfl
@[simp] theorem qpM : qAA Tryz.prog 179 = 8 := rfl
@[simp] theorem qh6 : qAA BB.P 179 = 8 := rfl
@[simp] theorem qrC : qAA Tryz.prog 180 = 8 := rfl
@[simp] theorem qiI : qAA BB.P 180 = 8 := rfl
@[simp] theorem qsQ : qAA Tryz.prog 181 = 8 := rfl
@[simp] theorem qhC : qAA BB.P 181 = 8 := rfl
@[simp] theorem qpV : qAA Tryz.prog 182 = 8 := rfl
@[simp] theorem qf3 : qAA BB.P 182 = 8 := rfl
@[simp] theorem qpC : qAA Tryz.prog 183 = 8 := rfl
@[simp] theorem qfL : qAA BB.P 183 = 8 := rfl
@[simp] theorem qnV : qAA Tryz.prog 184 = 8 := rfl
@[simp] theorem qkW : qAA BB.P 184 = 8 := rfl
@[simp] theorem qoH : qAA Tryz.prog 185 = 8 := rfl
@[simp] theorem qlR : qAA BB.P 185 = 8 := rfl
@[simp] theorem qrR : qAA Tryz.prog 186 = 8 := rfl
@[simp] theorem qiG : qAA BB.P 186 = 8 := rfl
@[simp] theorem qnX : qAA Tryz.prog 187 = 8 := rfl
@[simp] theorem qgU : qAA BB.P 187 = 8 := rfl
@[simp] theorem qmM : qAA Tryz.prog 188 = 8 := rfl
@[simp] theorem qkI : qAA BB.P 188 = 8 := rfl
@[simp] theorem qqO : qAA Tryz.prog 189 = 8 := rfl
@[simp] theorem qgC : qAA BB.P 189 = 8 := rfl
@[simp] theorem qrA : qAA Tryz.prog 190 = 32 := rfl
@[simp] theorem qjI : qAA BB.P 190 = 32 := rfl
@[simp] theorem qrQ : qAA Tryz.prog 191 = 32 := rfl
@[simp] theorem qi6 : qAA BB.P 191 = 32 := rfl
@[simp] theorem qoQ : qAA Tryz.prog 192 = 8 := rfl
@[simp] theorem qlS : qAA BB.P 192 = 8 := rfl
@[simp] theorem qpO : qAA Tryz.prog 193 = 16 := rfl
@[simp] theorem qgR : qAA BB.P 193 = 16 := rfl
@[simp] theorem qp2 : qAA Tryz.prog 194 = 16 := rfl
@[simp] theorem qi7 : qAA BB.P 194 = 16 := rfl
@[simp] theorem qm6 : qAA Tryz.prog 196 = 8 := rfl
@[simp] theorem qjN : qAA BB.P 196 = 8 := rfl
@[simp] theorem qnM : qAA Tryz.prog 197 = 8 := rfl
@[simp] theorem qgL : qAA BB.P 197 = 8 := rfl
@[simp] theorem qo6 : qAA Tryz.prog 198 = 24 := rfl
@[simp] theorem qk8 : qAA BB.P 198 = 24 := rfl
@[simp] theorem qoG : qAA Tryz.prog 199 = 16 := rfl
@[simp] theorem qj0 : qAA BB.P 199 = 16 := rfl
@[simp] theorem qnN : qAA Tryz.prog 200 = 16 := rfl
@[simp] theorem qlC : qAA BB.P 200 = 16 := rfl
@[simp] theorem qoE : qAA Tryz.prog 201 = 8 := rfl
@[simp] theorem qkZ : qAA BB.P 201 = 8 := rfl
@[simp] theorem qrL : qAA Tryz.prog 202 = 8 := rfl
@[simp] theorem qgM : qAA BB.P 202 = 8 := rfl
@[simp] theorem qpA : qAA Tryz.prog 203 = 8 := rfl
@[simp] theorem qkM : qAA BB.P 203 = 8 := rfl
@[simp] theorem qsO : qAA Tryz.prog 204 = 8 := rfl
@[simp] theorem qjD : qAA BB.P 204 = 8 := rfl
@[simp] theorem qrO : qAA Tryz.prog 205 = 8 := rfl
@[simp] theorem qhL : qAA BB.P 205 = 8 := rfl
@[simp] theorem qn1 : qAA Tryz.prog 206 = 8 := rfl
@[simp] theorem qmA : qAA BB.P 206 = 8 := rfl
@[simp] theorem qpR : qAA Tryz.prog 207 = 8 := rfl
@[simp] theorem qlU : qAA BB.P 207 = 8 := rfl
@[simp] theorem qrZ : qAA Tryz.prog 208 = 8 := rfl
@[simp] theorem qi0 : qAA BB.P 208 = 8 := rfl
@[simp] theorem qr3 : qAA Tryz.prog 210 = 8 := rfl
@[simp] theorem qjS : qAA BB.P 210 = 8 := rfl
@[simp] theorem qsV : qAA Tryz.prog 211 = 8 := rfl
@[simp] theorem qfT : qAA BB.P 211 = 8 := rfl
@[simp] theorem qsC : qAA Tryz.prog 212 = 8 := rfl
@[simp] theorem qgX : qAA BB.P 212 = 8 := rfl
@[simp] theorem qqA : qAA Tryz.prog 213 = 8 := rfl
@[simp] theorem qk9 : qAA BB.P 213 = 8 := rfl
@[simp] theorem qrP : qAA Tryz.prog 214 = 8 := rfl
@[simp] theorem qhV : qAA BB.P 214 = 8 := rfl
@[simp] theorem qpX : qAA Tryz.prog 215 = 8 := rfl
@[simp] theorem qk1 : qAA BB.P 215 = 8 := rfl
@[simp] theorem qp5 : qAA Tryz.prog 216 = 8 := rfl
@[simp] theorem qjX : qAA BB.P 216 = 8 := rfl
@[simp] theorem qmD : qAA Tryz.prog 217 = 8 := rfl
@[simp] theorem qlG : qAA BB.P 217 = 8 := rfl
@[simp] theorem qtA : qAA Tryz.prog 219 = 8 := rfl
@[simp] theorem qhY : qAA BB.P 219 = 8 := rfl
@[simp] theorem qmL : qAA Tryz.prog 220 = 8 := rfl
@[simp] theorem qjA : qAA BB.P 220 = 8 := rfl
@[simp] theorem qtN : qAA Tryz.prog 221 = 8 := rfl
@[simp] theorem qg9 : qAA BB.P 221 = 8 := rfl
@[simp] theorem qs0 : qAA Tryz.prog 222 = 8 := rfl
@[simp] theorem qiW : qAA BB.P 222 = 8 := rfl
@[simp] theorem qn0 : qAA Tryz.prog 223 = 8 := rfl
@[simp] theorem qg2 : qAA BB.P 223 = 8 := rfl
@[simp] theorem qsE : qAA Tryz.prog 224 = 8 := rfl
@[simp] theorem qhW : qAA BB.P 224 = 8 := rfl
@[simp] theorem qpH : qAA Tryz.prog 225 = 8 := rfl
@[simp] theorem qj2 : qAA BB.P 225 = 8 := rfl
@[simp] theorem qmY : qAA Tryz.prog 226 = 8 := rfl
@[simp] theorem qkP : qAA BB.P 226 = 8 := rfl
@[simp] theorem qpB : qAA Tryz.prog 227 = 8 := rfl
@[simp] theorem qkC : qAA BB.P 227 = 8 := rfl
@[simp] theorem qqS : qAA Tryz.prog 228 = 8 := rfl
@[simp] theorem qf8 : qAA BB.P 228 = 8 := rfl
@[simp] theorem qrT : qAA Tryz.prog 229 = 8 := rfl
@[simp] theorem ql2 : qAA BB.P 229 = 8 := rfl
@[simp] theorem qmT : qAA Tryz.prog 230 = 8 := rfl
@[simp] theorem qg7 : qAA BB.P 230 = 8 := rfl
@[simp] theorem qmR : qAA Tryz.prog 231 = 4 := rfl
@[simp] theorem qjR : qAA BB.P 231 = 4 := rfl
@[simp] theorem qsU : qAA Tryz.prog 233 = 8 := rfl
@[simp] theorem qhE : qAA BB.P 233 = 8 := rfl
@[simp] theorem qp4 : qAA Tryz.prog 234 = 8 := rfl
@[simp] theorem qjO : qAA BB.P 234 = 8 := rfl
@[simp] theorem qoY : qAA Tryz.prog 235 = 8 := rfl
@[simp] theorem qj9 : qAA BB.P 235 = 8 := rfl
@[simp] theorem qpY : qAA Tryz.prog 236 = 8 := rfl
@[simp] theorem qjP : qAA BB.P 236 = 8 := rfl
@[simp] theorem qmW : qAA Tryz.prog 237 = 8 := rfl
@[simp] theorem qf2 : qAA BB.P 237 = 8 := rfl
@[simp] theorem qn6 : qAA Tryz.prog 238 = 8 := rfl
@[simp] theorem qiB : qAA BB.P 238 = 8 := rfl
@[simp] theorem qq3 : qAA Tryz.prog 240 = 8 := rfl
@[simp] theorem qkN : qAA BB.P 240 = 8 := rfl
@[simp] theorem qsF : qAA Tryz.prog 242 = 8 := rfl
@[simp] theorem qlX : qAA BB.P 242 = 8 := rfl
@[simp] theorem qnR : qAA Tryz.prog 243 = 8 := rfl
@[simp] theorem qiJ : qAA BB.P 243 = 8 := rfl
@[simp] theorem qnO : qAA Tryz.prog 244 = 8 := rfl
@[simp] theorem qj7 : qAA BB.P 244 = 8 := rfl
@[simp] theorem qo4 : qAA Tryz.prog 245 = 8 := rfl
@[simp] theorem qlH : qAA BB.P 245 = 8 := rfl
@[simp] theorem qsK : qAA Tryz.prog 246 = 8 := rfl
@[simp] theorem qlO : qAA BB.P 246 = 8 := rfl
@[simp] theorem qsT : qAA Tryz.prog 247 = 8 := rfl
@[simp] theorem qgD : qAA BB.P 247 = 8 := rfl
@[simp] theorem qrF : qAA Tryz.prog 248 = 8 := rfl
@[simp] theorem qgT : qAA BB.P 248 = 8 := rfl
@[simp] theorem qrK : qAA Tryz.prog 249 = 8 := rfl
@[simp] theorem qj3 : qAA BB.P 249 = 8 := rfl
@[simp] theorem qtQ : qAA Tryz.prog 250 = 8 := rfl
@[simp] theorem qhN : qAA BB.P 250 = 8 := rfl
@[simp] theorem qnH : qAA Tryz.prog 251 = 8 := rfl
@[simp] theorem qk6 : qAA BB.P 251 = 8 := rfl
@[simp] theorem qp7 : qAA Tryz.prog 252 = 8 := rfl
@[simp] theorem qi9 : qAA BB.P 252 = 8 := rfl
@[simp] theorem qnQ : qAA Tryz.prog 253 = 8 := rfl
@[simp] theorem qh3 : qAA BB.P 253 = 8 := rfl
@[simp] theorem qmQ : qAA Tryz.prog 255 = 8 := rfl
@[simp] theorem qhR : qAA BB.P 255 = 8 := rfl
@[simp] theorem qrD : qAA Tryz.prog 256 = 8 := rfl
@[simp] theorem qiA : qAA BB.P 256 = 8 := rfl
@[simp] theorem qtK : qAA Tryz.prog 257 = 8 := rfl
@[simp] theorem qkY : qAA BB.P 257 = 8 := rfl
@[simp] theorem qqN : qAA Tryz.prog 258 = 8 := rfl
@[simp] theorem qfV : qAA BB.P 258 = 8 := rfl
@[simp] theorem qqK : qAA Tryz.prog 259 = 8 := rfl
@[simp] theorem qjG : qAA BB.P 259 = 8 := rfl
@[simp] theorem qsB : qAA Tryz.prog 260 = 8 := rfl
@[simp] theorem qkQ : qAA BB.P 260 = 8 := rfl
@[simp] theorem qsR : qAA Tryz.prog 261 = 8 := rfl
@[simp] theorem qlD : qAA BB.P 261 = 8 := rfl
@[simp] theorem qp1 : qAA Tryz.prog 263 = 8 := rfl
@[simp] theorem qiH : qAA BB.P 263 = 8 := rfl
@[simp] theorem qsP : qAA Tryz.prog 264 = 8 := rfl
@[simp] theorem qlK : qAA BB.P 264 = 8 := rfl
@[simp] theorem qp6 : qAA Tryz.prog 265 = 8 := rfl
@[simp] theorem qmB : qAA BB.P 265 = 8 := rfl
@[simp] theorem qtB : qAA Tryz.prog 267 = 8 := rfl
@[simp] theorem qhQ : qAA BB.P 267 = 8 := rfl
@[simp] theorem qqI : qAA Tryz.prog 268 = 8 := rfl
@[simp] theorem qi2 : qAA BB.P 268 = 8 := rfl
@[simp] theorem qmZ : qAA Tryz.prog 269 = 8 := rfl
@[simp] theorem qiR : qAA BB.P 269 = 8 := rfl
@[simp] theorem qrE : qAA Tryz.prog 270 = 8 := rfl
@[simp] theorem qk3 : qAA BB.P 270 = 8 := rfl
@[simp] theorem qrM : qAA Tryz.prog 271 = 8 := rfl
@[simp] theorem qg0 : qAA BB.P 271 = 8 := rfl
@[simp] theorem qnD : qAA Tryz.prog 272 = 8 := rfl
@[simp] theorem ql5 : qAA BB.P 272 = 8 := rfl
@[simp] theorem qnG : qAA Tryz.prog 273 = 8 := rfl
@[simp] theorem qhM : qAA BB.P 273 = 8 := rfl
@[simp] theorem qoK : qAA Tryz.prog 274 = 8 := rfl
@[simp] theorem qiV : qAA BB.P 274 = 8 := rfl
@[simp] theorem qnT : qAA Tryz.prog 275 = 8 := rfl
@[simp] theorem qhK : qAA BB.P 275 = 8 := rfl
@[simp] theorem qpD : qAA Tryz.prog 277 = 8 := rfl
@[simp] theorem qgN : qAA BB.P 277 = 8 := rfl
@[simp] theorem qpS : qAA Tryz.prog 278 = 8 := rfl
@[simp] theorem qjY : qAA BB.P 278 = 8 := rfl
@[simp] theorem qrB : qAA Tryz.prog 280 = 8 := rfl
@[simp] theorem qkV : qAA BB.P 280 = 8 := rfl
@[simp] theorem qsN : qAA Tryz.prog 281 = 40 := rfl
@[simp] theorem qgV : qAA BB.P 281 = 40 := rfl
@[simp] theorem qrU : qAA Tryz.prog 282 = 40 := rfl
@[simp] theorem qkD : qAA BB.P 282 = 40 := rfl
@[simp] theorem qsY : qAA Tryz.prog 286 = 8 := rfl
@[simp] theorem qj8 : qAA BB.P 286 = 8 := rfl
@[simp] theorem qpU : qAA Tryz.prog 287 = 1 := rfl
@[simp] theorem qg4 : qAA BB.P 287 = 1 := rfl
@[simp] theorem qnL : qAA Tryz.prog 288 = 1 := rfl
@[simp] theorem qh8 : qAA BB.P 288 = 1 := rfl
@[simp] theorem qtG : qAA Tryz.prog 289 = 8 := rfl
@[simp] theorem qgY : qAA BB.P 289 = 8 := rfl
@[simp] theorem qm2 : qAA Tryz.prog 290 = 4 := rfl
@[simp] theorem qgJ : qAA BB.P 290 = 4 := rfl
@[simp] theorem qnP : qAA Tryz.prog 291 = 4 := rfl
@[simp] theorem qhG : qAA BB.P 291 = 4 := rfl
@[simp] theorem qmC : qAA Tryz.prog 292 = 48 := rfl
@[simp] theorem qfU : qAA BB.P 292 = 48 := rfl
@[simp] theorem qqR : qAA Tryz.prog 293 = 48 := rfl
@[simp] theorem qg1 : qAA BB.P 293 = 48 := rfl
theorem qlA (x : UInt8) : 0 ≤ (x.toNat : Int) ∧ (x.toNat : Int) ≤ 255 := by have := x.toNat_lt;omega
theorem obA {p : Prop} (h : p := by first|exact Ob.mk (qlA _)|(refine Ob.mk ?_;first|exact True.intro|assumption|omega|(simp only [ZA,ZB,ZC,ZD,ZE,ZF,ZG,ZH,ZI,ZJ,ZK,ZL,ZM,ZN,ZO,Int.toNat_natCast,UInt8.ofNat_toNat,cast_eq] at *;omega)|(show (_:Int) = _;omega)|(show qRX _ = _;with_unfolding_all rfl)|((first|show (_:Nat) ≤ _|show (_:Nat) ≤ _ ∧ (_:Nat) ≤ _|show (_:Int) ≤ _ ∧ (_:Int) ≤ _ ∧ (_:Int) ≤ _ ∧ (_:Int) ≤ _);(simp <;> omega)))|(show (_:Int) = _;omega)|(show qRX _ = _;with_unfolding_all rfl)|((first|show (_:Nat) ≤ _|show (_:Nat) ≤ _ ∧ (_:Nat) ≤ _|show (_:Int) ≤ _ ∧ (_:Int) ≤ _ ∧ (_:Int) ≤ _ ∧ (_:Int) ≤ _);(simp <;> omega))) : p := h
theorem vcA {p : Prop} (h : p := by (repeat' ((conv => whnf);first|(with_reducible first|rfl|exact qAH|exact qAG)|exact True.intro|intro _|refine WA ?_ ?_|refine WF ?_|refine W1 rfl ?_ ?_|refine W2 rfl ?_ ?_|refine W3 rfl ?_ ?_|refine W4 ?_ ?_|refine W5 rfl ?_ ?_|refine W6 ?_ ?_|refine WN ?_|refine X1 (W1 rfl ?_ ?_)|refine X1 (W2 rfl ?_ ?_)|refine X2 (W7 rfl ?_ ?_)|refine X3 (W7 rfl ?_ ?_)|refine X4 (W7 rfl ?_ ?_)|refine X5 (W7 rfl ?_ ?_)));(all_goals (try (conv => whnf)));(all_goals (try first|exact obA|refine Ob.mk ?_));(all_goals (try rfl))) : p := h
end Go.Vc

namespace Go.Vc
open Go.Proofs
set_option maxRecDepth 10000
abbrev qAE := qAC.T
abbrev qAE.up (n : qAE) : Int := n.2.2.2.2.2.1
abbrev qAE.kids (n : qAE) : List Int := n.2.2.2.2.2.2
def isT (l : List qAE) (i : Int) : Bool := decide (0 ≤ i) && decide (i < l.length)
end Go.Vc

namespace Go.Vc
open Go.Proofs
set_option maxRecDepth 10000
theorem take_snoc {α : Type} (l : List α) (i : Nat) (d : α) (h : i < l.length) : l.take (i + 1) = l.take i ++ [l.getD i d] := by
 rw [List.take_succ_eq_append_getElem h];simp [List.getD,List.getElem?_eq_getElem h]
theorem qMX {α : Type} (p : α → Bool) (l : List α) (i : Nat) (d : α) (h : i < l.length) : (l.take (i + 1)).all p = ((l.take i).all p && p (l.getD i d)) := by
 rw [take_snoc l i d h];simp
theorem qI4 {α : Type} {p : α → Bool} {l : List α} {i : Nat} {d : α} (h : i < l.length) (hp : p (l.getD i d) = false) : l.all p = false := by
 rw [List.all_eq_false]
 refine ⟨l.getD i d,?_,by rw [hp];simp⟩
 simp [List.getD,List.getElem?_eq_getElem h]
abbrev qAD := qAX.T
def qIK (l : List qAD) : Bool := decide (l.length ≤ 14) && l.all fun a => decide (a.1.length ≤ 40) && decide (a.2.length ≤ 150)
instance f33 (l : List qAD) : Fn BB 37 [.rd qAX l] True (.bool (qIK l)) := by
 refine Fn.intro (N := 25) [0,2,4,7,8,9,10,11,23] [] Tryz.call37 Tryz.func37 rfl rfl (by kernel_rfl) (fun hpre => ?_)
 repeat' ((conv => whnf);first|(with_reducible first|rfl|exact qAH|exact qAG)|exact True.intro|intro _|refine WA ?_ ?_|refine WF ?_|refine W1 rfl ?_ ?_|refine W2 rfl ?_ ?_|refine W3 rfl ?_ ?_|refine W4 ?_ ?_|refine W5 rfl ?_ ?_|refine W6 ?_ ?_|refine WN ?_|refine X1 (W1 rfl ?_ ?_)|refine X1 (W2 rfl ?_ ?_)|refine X2 (W7 rfl ?_ ?_)|refine X3 (W7 rfl ?_ ?_)|refine X4 (W7 rfl ?_ ?_)|refine X5 (W7 rfl ?_ ?_))
 all_goals (try (conv => whnf))
 ·simp only [qIK,decide_eq_true_eq] at *
  rw [decide_eq_false (by omega)];rfl
 ·refine LoopStop.mk (α := Nat) (fun i => [(10,.int .i64 i)]) (fun _ => []) 0 (fun i => i ≤ l.length ∧ (l.take i).all (fun a => decide (a.1.length ≤ 40) && decide (a.2.length ≤ 150)) = true) (fun i => l.length - i) 0 (by simp) ?_ (fun i hi => ?_)
  ·repeat' ((conv => whnf);first|(with_reducible first|rfl|exact qAH|exact qAG)|exact True.intro|intro _|refine WA ?_ ?_|refine WF ?_|refine W1 rfl ?_ ?_|refine W2 rfl ?_ ?_|refine W3 rfl ?_ ?_|refine W4 ?_ ?_|refine W5 rfl ?_ ?_|refine W6 ?_ ?_|refine WN ?_|refine X1 (W1 rfl ?_ ?_)|refine X1 (W2 rfl ?_ ?_)|refine X2 (W7 rfl ?_ ?_)|refine X3 (W7 rfl ?_ ?_)|refine X4 (W7 rfl ?_ ?_)|refine X5 (W7 rfl ?_ ?_))
   all_goals (try (conv => whnf))
   all_goals (try rfl)
  ·obtain ⟨hi,ha⟩ := hi
   repeat' ((conv => whnf);first|(with_reducible first|rfl|exact qAH|exact qAG)|exact True.intro|intro _|refine WA ?_ ?_|refine WF ?_|refine W1 rfl ?_ ?_|refine W2 rfl ?_ ?_|refine W3 rfl ?_ ?_|refine W4 ?_ ?_|refine W5 rfl ?_ ?_|refine W6 ?_ ?_|refine WN ?_|refine X1 (W1 rfl ?_ ?_)|refine X1 (W2 rfl ?_ ?_)|refine X2 (W7 rfl ?_ ?_)|refine X3 (W7 rfl ?_ ?_)|refine X4 (W7 rfl ?_ ?_)|refine X5 (W7 rfl ?_ ?_))
   all_goals (try (conv => whnf))
   all_goals (try first|exact obA|refine Ob.mk ?_)
   all_goals (try simp only [ZA,ZB,ZC,ZD,ZE,ZF,ZG,ZH,ZI,ZJ,ZK,ZL,ZM,ZN,ZO,Int.toNat_natCast,UInt8.ofNat_toNat,cast_eq] at *)
   ·have h : i < l.length := by omega
    rw [qIK,qI4 h (d := qAX.dflt)]
    ·simp
    ·simp_all;omega
   ·have h : i < l.length := by omega
    refine Rnd.mk ⟨i + 1,?_,?_,?_⟩
    ·refine ⟨by omega,?_⟩
     rw [qMX _ l i qAX.dflt h,ha]
     simp_all
     omega
    ·omega
    ·all_goals exact vcA
   ·have : i = l.length := by omega
    subst this
    rw [List.take_length] at ha
    rw [qIK,ha,decide_eq_true (by omega)];rfl
def qMG (n : qAE) : Bool := decide ((n.2.2.1.length : Int) ≤ 40) && decide ((n.2.2.2.2.1.length : Int) ≤ 300) && decide ((n.kids.length : Int) ≤ 60) && qIK n.2.2.2.1
instance f9 (k s : Int) (nm : List UInt8) (at_ : List qAD) (d : List UInt8) (up : Int) (kids : List Int) :
  Fn BB 30 [.agg [.int .i64 k,.int .i64 s,.str nm,.rd qAX at_,.str d,.int .i64 up,.rd qAI kids]] True (.bool (qMG (k,s,nm,at_,d,up,kids))) := by
 refine Fn.intro (N := 24) [0,1,2] [] Tryz.call30 Tryz.func30 rfl rfl (by kernel_rfl) (fun hpre => ?_)
 all_goals exact vcA
def qBW (l : List qAE) (most : Int) : Bool := decide (l.length ≤ most) && l.all qMG
instance f8 (l : List qAE) (most : Int) : Fn BB 22 [.agg [.rd qAC l],.int .i64 most] True (.bool (qBW l most)) := by
 refine Fn.intro (N := 23) [0,1,2,4,6,11,13,14,15,16,21] [] Tryz.call22 Tryz.func22 rfl rfl (by kernel_rfl) (fun hpre => ?_)
 repeat' ((conv => whnf);first|(with_reducible first|rfl|exact qAH|exact qAG)|exact True.intro|intro _|refine WA ?_ ?_|refine WF ?_|refine W1 rfl ?_ ?_|refine W2 rfl ?_ ?_|refine W3 rfl ?_ ?_|refine W4 ?_ ?_|refine W5 rfl ?_ ?_|refine W6 ?_ ?_|refine WN ?_|refine X1 (W1 rfl ?_ ?_)|refine X1 (W2 rfl ?_ ?_)|refine X2 (W7 rfl ?_ ?_)|refine X3 (W7 rfl ?_ ?_)|refine X4 (W7 rfl ?_ ?_)|refine X5 (W7 rfl ?_ ?_))
 all_goals (try (conv => whnf))
 ·simp only [qBW,decide_eq_true_eq] at *
  rw [decide_eq_false (by omega)];rfl
 ·refine LoopStop.mk (α := Nat) (fun i => [(15,.int .i64 i)]) (fun _ => []) 20 (fun i => i ≤ l.length ∧ (l.take i).all qMG = true) (fun i => l.length - i) 0 (by simp) ?_ (fun i hi => ?_)
  ·repeat' ((conv => whnf);first|(with_reducible first|rfl|exact qAH|exact qAG)|exact True.intro|intro _|refine WA ?_ ?_|refine WF ?_|refine W1 rfl ?_ ?_|refine W2 rfl ?_ ?_|refine W3 rfl ?_ ?_|refine W4 ?_ ?_|refine W5 rfl ?_ ?_|refine W6 ?_ ?_|refine WN ?_|refine X1 (W1 rfl ?_ ?_)|refine X1 (W2 rfl ?_ ?_)|refine X2 (W7 rfl ?_ ?_)|refine X3 (W7 rfl ?_ ?_)|refine X4 (W7 rfl ?_ ?_)|refine X5 (W7 rfl ?_ ?_))
   all_goals (try (conv => whnf))
   all_goals (try rfl)
  ·obtain ⟨hi,ha⟩ := hi
   repeat' ((conv => whnf);first|(with_reducible first|rfl|exact qAH|exact qAG)|exact True.intro|intro _|refine WA ?_ ?_|refine WF ?_|refine W1 rfl ?_ ?_|refine W2 rfl ?_ ?_|refine W3 rfl ?_ ?_|refine W4 ?_ ?_|refine W5 rfl ?_ ?_|refine W6 ?_ ?_|refine WN ?_|refine X1 (W1 rfl ?_ ?_)|refine X1 (W2 rfl ?_ ?_)|refine X2 (W7 rfl ?_ ?_)|refine X3 (W7 rfl ?_ ?_)|refine X4 (W7 rfl ?_ ?_)|refine X5 (W7 rfl ?_ ?_))
   all_goals (try (conv => whnf))
   all_goals (try first|exact obA|refine Ob.mk ?_)
   all_goals (try simp only [ZA,ZB,ZC,ZD,ZE,ZF,ZG,ZH,ZI,ZJ,ZK,ZL,ZM,ZN,ZO,Int.toNat_natCast,UInt8.ofNat_toNat,cast_eq] at *)
   ·have h : i < l.length := by omega
    rw [qBW,qI4 h (d := qAC.dflt)]
    ·simp
    ·simp_all
   ·have h : i < l.length := by omega
    refine Rnd.mk ⟨i + 1,?_,?_,?_⟩
    ·refine ⟨by omega,?_⟩
     rw [qMX _ l i qAC.dflt h,ha]
     simp_all
    ·omega
    ·all_goals exact vcA
   ·have : i = l.length := by omega
    subst this
    rw [List.take_length] at ha
    rw [qBW,ha,decide_eq_true (by omega)];rfl
end Go.Vc

namespace Go.Vc
open Go.Proofs
set_option maxRecDepth 10000
def qMD (l : List Int) (w : Int) : Int := if l.contains w then (l.idxOf w : Int) else -1
theorem qHS {l : List Int} {w : Int} (h : l.contains w = false) : qMD l w = -1 := by rw [qMD,h];rfl
theorem qG8 (l : List Int) (i : Nat) (w : Int) (h : i < l.length) : (l.take (i+1)).contains w = ((l.take i).contains w || (l.getD i 0 == w)) := by
 rw [take_snoc l i 0 h]
 simp only [List.contains_eq_any_beq,List.any_append,List.any_cons,List.any_nil,Bool.or_false]
 congr 1
 exact Bool.beq_comm
theorem qM8 {l : List Int} {w : Int} {i : Nat} (h : i < l.length) (h1 : (l.take i).contains w = false) (h2 : w = l.getD i 0) : qMD l w = i := by
 have hc : l.contains w = true := by rw [h2];simp [List.getD,List.getElem?_eq_getElem h]
 rw [qMD,hc,if_pos rfl]
 have e := List.take_append_drop i l
 rw [← e,List.idxOf_append,if_neg (by simpa using h1),List.length_take,Nat.min_eq_left (by omega)]
 have e2 : l.drop i = w :: l.drop (i+1) := by rw [List.drop_eq_getElem_cons h,h2];simp [List.getD,List.getElem?_eq_getElem h]
 rw [e2,List.idxOf_cons_self];simp
instance f41 (l : List Int) (w : Int) : Fn BB 88 [.rd qAI l,.int .i64 w] True (.int .i64 (qMD l w)) := by
 refine Fn.intro (N := 19) [0,1,4,5,7,8,9,16] [] Tryz.call88 Tryz.func88 rfl rfl (by kernel_rfl) (fun hpre => ?_)
 repeat' ((conv => whnf);first|(with_reducible first|rfl|exact qAH|exact qAG)|exact True.intro|intro _|refine WA ?_ ?_|refine WF ?_|refine W1 rfl ?_ ?_|refine W2 rfl ?_ ?_|refine W3 rfl ?_ ?_|refine W4 ?_ ?_|refine W5 rfl ?_ ?_|refine W6 ?_ ?_|refine WN ?_|refine X1 (W1 rfl ?_ ?_)|refine X1 (W2 rfl ?_ ?_)|refine X2 (W7 rfl ?_ ?_)|refine X3 (W7 rfl ?_ ?_)|refine X4 (W7 rfl ?_ ?_)|refine X5 (W7 rfl ?_ ?_))
 all_goals (try (conv => whnf))
 refine LoopStop.mk (α := Nat) (fun i => [(8,.int .i64 i)]) (fun i => []) 20 (fun i => i ≤ l.length ∧ (l.take i).contains w = false) (fun i => l.length - i) 0 (by simp) ?_ (fun i hi => ?_)
 ·repeat' ((conv => whnf);first|(with_reducible first|rfl|exact qAH|exact qAG)|exact True.intro|intro _|refine WA ?_ ?_|refine WF ?_|refine W1 rfl ?_ ?_|refine W2 rfl ?_ ?_|refine W3 rfl ?_ ?_|refine W4 ?_ ?_|refine W5 rfl ?_ ?_|refine W6 ?_ ?_|refine WN ?_|refine X1 (W1 rfl ?_ ?_)|refine X1 (W2 rfl ?_ ?_)|refine X2 (W7 rfl ?_ ?_)|refine X3 (W7 rfl ?_ ?_)|refine X4 (W7 rfl ?_ ?_)|refine X5 (W7 rfl ?_ ?_))
  all_goals (try (conv => whnf))
  all_goals (try rfl)
 ·obtain ⟨hi,ha⟩ := hi
  repeat' ((conv => whnf);first|(with_reducible first|rfl|exact qAH|exact qAG)|exact True.intro|intro _|refine WA ?_ ?_|refine WF ?_|refine W1 rfl ?_ ?_|refine W2 rfl ?_ ?_|refine W3 rfl ?_ ?_|refine W4 ?_ ?_|refine W5 rfl ?_ ?_|refine W6 ?_ ?_|refine WN ?_|refine X1 (W1 rfl ?_ ?_)|refine X1 (W2 rfl ?_ ?_)|refine X2 (W7 rfl ?_ ?_)|refine X3 (W7 rfl ?_ ?_)|refine X4 (W7 rfl ?_ ?_)|refine X5 (W7 rfl ?_ ?_))
  all_goals (try (conv => whnf))
  all_goals (try first|exact obA|refine Ob.mk ?_)
  all_goals (try simp only [ZA,ZB,ZC,ZD,ZE,ZF,ZG,ZH,ZI,ZJ,ZK,ZL,ZM,ZN,ZO,Int.toNat_natCast,UInt8.ofNat_toNat,cast_eq] at *)
  ·rw [qM8 (i := i) (by omega) (by simpa using ha) (by assumption)]
  ·have h : i < l.length := by omega
   refine Rnd.mk ⟨i + 1,?_,?_,?_⟩
   ·refine ⟨by omega,?_⟩
    rw [qG8 l i w h,Bool.or_eq_false_iff]
    refine ⟨by simpa using ha,beq_eq_false_iff_ne.2 fun e => ?_⟩
    simp_all
   ·omega
   ·all_goals exact vcA
  ·have : i = l.length := by omega
   subst this
   rw [qHS (by simpa using ha)]
instance f17 (l : List Int) (w : Int) : Fn BB 29 [.rd qAI l,.int .i64 w] True (.bool (decide (qMD l w ≥ 0))) := by
 refine Fn.intro (N := 9) [0,1,4] [] Tryz.call29 Tryz.func29 rfl rfl (by kernel_rfl) (fun hpre => ?_)
 all_goals exact vcA
end Go.Vc

namespace Go.Vc
open Go.Proofs
set_option maxRecDepth 10000
abbrev nd (l : List qAE) (i : Int) : qAE := l.getD i.toNat qAC.dflt
def qOC (l : List qAE) (kid : Int) : Int := if isT l kid && isT l (nd l kid).up then qMD (nd l (nd l kid).up).kids kid else -1
theorem qD3 {l : List qAE} {i : Int} : isT l i = true ↔ 0 ≤ i ∧ i < l.length := by simp [isT]
theorem qRS {a b : Bool} (h : (!a || !b) = true) : (a && b) = false := by cases a <;> cases b <;> simp_all
theorem qO0 {a b : Bool} (h : (!a || !b) = false) : a = true ∧ b = true := by cases a <;> cases b <;> simp_all
def qG4 : Nat → List qAE → Int → Int → Bool
 | 0,_,_,_ => false
 | n + 1,l,up,kid => if isT l kid then (if kid = up then true else qG4 n l up (nd l kid).up) else false
def qMA (l : List qAE) (up kid : Int) : Bool := isT l up && qG4 (l.length + 1) l up kid
end Go.Vc

namespace Go.Vc
open Go.Proofs
set_option maxRecDepth 10000
def qFU (l : List qAE) : Bool := decide (l.length ≤ 1000) && l.all fun n => decide (n.2.2.2.1.length ≤ 1000) && decide (n.kids.length ≤ 1000)
end Go.Vc

/-
 DERIVED: THE SHELF's CONTRACTS AT THIS DUMP,IN PLAIN WORDS (tools/lay-plain.mjs out of 'TryzShelf.lean',which tools/lay-shelf.mjs wrote): THE SAME DECLARATIONS UNDER THE SAME NAMES: 'import', 'namespace', 'open', 'def', 'theorem' AND NOTHING ELSE: no command of the shelf's: FOR A HAND-IN. Each laying: the table of numbers ('.._ren') and one theorem,a field a fact of the dump's own or the kernel's comparison;each contract: ONE APPLICATION.
-/
namespace Go.Proofs
open Go.Shelf
def Tryz.lays219_ren : Go.Shelf.Ren := ⟨fun | 219 => 172 | 217 => 203 | 225 => 204 | 224 => 205 | 267 => 206 | 266 => 253 | 314 => 254 | n => n,fun | 9 => 9 | 3 => 3 | 4 => 4 | 5 => 5 | 46 => 214 | 146 => 232 | 51 => 231 | n => n,fun | 1 => 0 | n => n⟩
def Tryz.lays143_ren : Go.Shelf.Ren := ⟨fun | 143 => 137 | 219 => 172 | 217 => 203 | 225 => 204 | 224 => 205 | 267 => 206 | 266 => 253 | 314 => 254 | n => n,fun | 9 => 9 | 3 => 3 | 4 => 4 | 5 => 5 | 46 => 214 | 146 => 232 | 51 => 231 | n => n,fun | 1 => 0 | n => n⟩
theorem Tryz.lays143 : Go.Proofs.Lays.n143 Tryz.prog Tryz.lays143_ren := {
  mixed := by kernel_rfl
  f143 := Tryz.func137.trans (congrArg some (by kernel_rfl))
  f217 := Tryz.func203.trans (congrArg some (by kernel_rfl))
  f219 := Tryz.func172.trans (congrArg some (by kernel_rfl))
  f224 := Tryz.func205.trans (congrArg some (by kernel_rfl))
  f225 := Tryz.func204.trans (congrArg some (by kernel_rfl))
  f266 := Tryz.func253.trans (congrArg some (by kernel_rfl))
  f267 := Tryz.func206.trans (congrArg some (by kernel_rfl))
  f314 := Tryz.func254.trans (congrArg some (by kernel_rfl))
  t3 := Tryz.underlying3
  a3 := Tryz.isAgg3
  z3 := Tryz.sizeOf3
  v3 := Tryz.zeroValue3
  t4 := Tryz.underlying4
  a4 := Tryz.isAgg4
  z4 := Tryz.sizeOf4
  v4 := Tryz.zeroValue4
  t5 := Tryz.underlying5
  a5 := Tryz.isAgg5
  z5 := Tryz.sizeOf5
  v5 := Tryz.zeroValue5
  t9 := Tryz.underlying9
  a9 := Tryz.isAgg9
  z9 := Tryz.sizeOf9
  v9 := Tryz.zeroValue9
  t46 := Tryz.underlying214
  a46 := Tryz.isAgg214
  z46 := Tryz.sizeOf214
  v46 := Tryz.zeroValue214
  t51 := Tryz.underlying231
  a51 := Tryz.isAgg231
  z51 := Tryz.sizeOf231
  v51 := Tryz.zeroValue231
  t146 := Tryz.underlying232
  a146 := Tryz.isAgg232
  z146 := Tryz.sizeOf232
  v146 := Tryz.zeroValue232
  g1 := by kernel_rfl }
open Go.RowKit Go.Lib in
theorem Tryz.strings_Index (s sub : ByteArray) (m : Int) (w : World) (hs : s.size < 4294967281) (hm : w.cell? ⟨0,0,none⟩ = some (.int .i64 m)) :
  Calls Tryz.prog 137 #[.string s,.string sub] w fun e w' => e = .returned (.int .i64 (Lib.index s.data.toList sub.data.toList)) ∧ w' = w := Any.strings_Index Tryz.lays143 s sub m w hs hm
end Go.Proofs

namespace Go.Vc
open Go.Proofs
set_option maxRecDepth 10000
theorem qJY {l : List qAE} (h : qFU l = true) (i : Int) (hi : isT l i = true) : (nd l i).2.2.2.1.length ≤ 1000 ∧ (nd l i).kids.length ≤ 1000 := by
 simp only [qFU,Bool.and_eq_true,List.all_eq_true,decide_eq_true_eq] at h
 obtain ⟨h1,h2⟩ := qD3.1 hi
 refine h.2 (nd l i) ?_
 have : i.toNat < l.length := by omega
 simp [nd,List.getD,List.getElem?_eq_getElem this]
theorem qP3 {l : List qAE} (h : qFU l = true) : l.length ≤ 1000 := by
 simp only [qFU,Bool.and_eq_true,decide_eq_true_eq] at h
 exact h.1
end Go.Vc

namespace Go.Vc
open Go.Proofs
set_option maxRecDepth 10000
def qYA : qAE := ((0 : Int),(0 : Int),([] : List UInt8),([] : List qAD),([] : List UInt8),(-1 : Int),([] : List Int))
theorem FnM.wk {B : Base} {f : FuncId} {args args' : List SV} {Φ : Phi} {pre : Prop} {res : SV} {Φ' : Phi} (F : FnM B f args Φ pre res Φ') (h : ∀ r β vs,qAT r β args' vs → qAT r β args vs) : FnM B f args' Φ pre res Φ' :=
 ⟨F.call,fun hp r β w vs hG m hl => F.ok hp r β w vs hG m (h r β vs hl)⟩
end Go.Vc

namespace Go.Vc
open Go.Proofs
set_option maxRecDepth 10000
instance a46 (l : List qAE) (i : Int) : Fn BB 341 [.agg [.rd qAC l],.int .i64 i] True (.bool (isT l i)) := by
 refine Fn.intro (N := 14) [0,1,2,4] [] Tryz.call341 Tryz.func341 rfl rfl (by kernel_rfl) (fun hpre => ?_)
 repeat' ((conv => whnf);first|(with_reducible first|rfl|exact qAH|exact qAG)|exact True.intro|intro _|refine WA ?_ ?_|refine WF ?_|refine W1 rfl ?_ ?_|refine W2 rfl ?_ ?_|refine W3 rfl ?_ ?_|refine W4 ?_ ?_|refine W5 rfl ?_ ?_|refine W6 ?_ ?_|refine WN ?_|refine X1 (W1 rfl ?_ ?_)|refine X1 (W2 rfl ?_ ?_)|refine X2 (W7 rfl ?_ ?_)|refine X3 (W7 rfl ?_ ?_)|refine X4 (W7 rfl ?_ ?_)|refine X5 (W7 rfl ?_ ?_))
 all_goals (try (conv => whnf))
 all_goals (try first|exact obA|refine Ob.mk ?_)
 all_goals (simp_all [isT];done)
end Go.Vc

namespace Go.Vc.W
open Go.Proofs
def isSp (c : Int) : Bool := c == 9 || c == 10 || c == 12 || c == 13 || c == 32
set_option maxRecDepth 10000
instance f31 (c : Int) : Fn BB 138 [.int .u8 c] True (.bool (isSp c)) := by
 refine Fn.intro (N := 10) [0,2,3,4] [] Tryz.call138 Tryz.func138 rfl rfl (by kernel_rfl) (fun hpre => ?_)
 repeat' ((conv => whnf);first|(with_reducible first|rfl|exact qAH|exact qAG)|exact True.intro|intro _|refine WA ?_ ?_|refine WF ?_|refine W1 rfl ?_ ?_|refine W2 rfl ?_ ?_|refine W3 rfl ?_ ?_|refine W4 ?_ ?_|refine W5 rfl ?_ ?_|refine W6 ?_ ?_|refine WN ?_|refine X1 (W1 rfl ?_ ?_)|refine X1 (W2 rfl ?_ ?_)|refine X2 (W7 rfl ?_ ?_)|refine X3 (W7 rfl ?_ ?_)|refine X4 (W7 rfl ?_ ?_)|refine X5 (W7 rfl ?_ ?_))
 all_goals (try (conv => whnf))
 all_goals (simp_all [isSp];done)
instance f40 (c : Int) : Fn BB 149 [.int .u8 c] True (.bool (isSp c)) := by
 refine Fn.intro (N := 21) [0,2] [] Tryz.call149 Tryz.func149 rfl rfl (by kernel_rfl) (fun hpre => ?_)
 repeat' ((conv => whnf);first|(with_reducible first|rfl|exact qAH|exact qAG)|exact True.intro|intro _|refine WA ?_ ?_|refine WF ?_|refine W1 rfl ?_ ?_|refine W2 rfl ?_ ?_|refine W3 rfl ?_ ?_|refine W4 ?_ ?_|refine W5 rfl ?_ ?_|refine W6 ?_ ?_|refine WN ?_|refine X1 (W1 rfl ?_ ?_)|refine X1 (W2 rfl ?_ ?_)|refine X2 (W7 rfl ?_ ?_)|refine X3 (W7 rfl ?_ ?_)|refine X4 (W7 rfl ?_ ?_)|refine X5 (W7 rfl ?_ ?_))
 all_goals (try (conv => whnf))
 all_goals (simp_all [isSp];done)
theorem take_snoc {α : Type} (l : List α) (i : Nat) (d : α) (h : i < l.length) : l.take (i + 1) = l.take i ++ [l.getD i d] := by
 rw [List.take_succ_eq_append_getElem h];simp [List.getD,List.getElem?_eq_getElem h]
theorem qG8 (l : List (List UInt8)) (i : Nat) (w : List UInt8) (h : i < l.length) : (l.take (i+1)).contains w = ((l.take i).contains w || (l.getD i [] == w)) := by
 rw [take_snoc l i [] h]
 simp only [List.contains_eq_any_beq,List.any_append,List.any_cons,List.any_nil,Bool.or_false]
 congr 1
 exact Bool.beq_comm
instance f34 (l : List (List UInt8)) (w : List UInt8) : Fn BB 131 [.rd .str l,.str w] True (.bool (l.contains w)) := by
 refine Fn.intro (N := 18) [0,1,4,5,9,17] [] Tryz.call131 Tryz.func131 rfl rfl (by kernel_rfl) (fun hpre => ?_)
 (conv => whnf)
 refine LoopStop.mk (α := Nat) (fun i => [(5,.int .i64 i)]) (fun _ => []) 0 (fun i => i ≤ l.length ∧ (l.take i).contains w = false) (fun i => l.length - i) 0 (by simp) ?_ (fun i hi => ?_)
 ·repeat' ((conv => whnf);first|(with_reducible first|rfl|exact qAH|exact qAG)|exact True.intro|intro _|refine WA ?_ ?_|refine WF ?_|refine W1 rfl ?_ ?_|refine W2 rfl ?_ ?_|refine W3 rfl ?_ ?_|refine W4 ?_ ?_|refine W5 rfl ?_ ?_|refine W6 ?_ ?_|refine WN ?_|refine X1 (W1 rfl ?_ ?_)|refine X1 (W2 rfl ?_ ?_)|refine X2 (W7 rfl ?_ ?_)|refine X3 (W7 rfl ?_ ?_)|refine X4 (W7 rfl ?_ ?_)|refine X5 (W7 rfl ?_ ?_))
  all_goals (try (conv => whnf))
  all_goals (try rfl)
 ·repeat' ((conv => whnf);first|(with_reducible first|rfl|exact qAH|exact qAG)|exact True.intro|intro _|refine WA ?_ ?_|refine WF ?_|refine W1 rfl ?_ ?_|refine W2 rfl ?_ ?_|refine W3 rfl ?_ ?_|refine W4 ?_ ?_|refine W5 rfl ?_ ?_|refine W6 ?_ ?_|refine WN ?_|refine X1 (W1 rfl ?_ ?_)|refine X1 (W2 rfl ?_ ?_)|refine X2 (W7 rfl ?_ ?_)|refine X3 (W7 rfl ?_ ?_)|refine X4 (W7 rfl ?_ ?_)|refine X5 (W7 rfl ?_ ?_))
  all_goals (try (conv => whnf))
  all_goals (try first|exact obA|refine Ob.mk ?_)
  all_goals (try simp only [ZA,ZB,ZC,ZD,ZE,ZF,ZG,ZH,ZI,ZJ,ZK,ZL,ZM,ZN,ZO,Int.toNat_natCast,UInt8.ofNat_toNat,cast_eq] at *)
  ·rename_i h1 h2 h3
   have h4 : i < l.length := by omega
   rw [← h3];simp [List.getD,List.getElem?_eq_getElem h4]
  ·rename_i h1 h2 h3
   have h4 : i < l.length := by omega
   refine Rnd.mk ⟨i + 1,?_,?_,?_⟩
   ·refine ⟨by omega,?_⟩
    rw [qG8 l i w h4,hi.2,Bool.false_or];exact beq_eq_false_iff_ne.mpr h3
   ·omega
   ·all_goals exact vcA
  ·rename_i h1 h2
   have : i = l.length := by omega
   subst this;simp_all
end Go.Vc.W

namespace Go.Vc.W
open Go.Proofs
set_option maxRecDepth 10000
def qEB (p : List (List UInt8) × List UInt8) (c : UInt8) : List (List UInt8) × List UInt8 :=
 if isSp c.toNat then (if p.2 = [] then (p.1,[]) else (p.1 ++ [p.2],[])) else (p.1,p.2 ++ [c])
def qeF (p : List (List UInt8) × List UInt8) : List (List UInt8) := if p.2 = [] then p.1 else p.1 ++ [p.2]
def spl (s : List UInt8) : List (List UInt8) := qeF (s.foldl qEB ([],[]))
def qGF (s : List UInt8) (i : Nat) : List (List UInt8) × List UInt8 := (s.take i).foldl qEB ([],[])
theorem qCU (s : List UInt8) (i : Nat) (h : i < s.length) : qGF s (i + 1) = qEB (qGF s i) (s.getD i 0) := by
 unfold qGF;rw [take_snoc s i 0 h,List.foldl_append];rfl
theorem qJ2 (s : List UInt8) (i : Nat) (h : s.length ≤ i) : qGF s i = s.foldl qEB ([],[]) := by
 unfold qGF;rw [List.take_of_length_le h]
theorem qV0 (p : List (List UInt8) × List UInt8) (c : UInt8) : (qEB p c).1.length + (qEB p c).2.length ≤ p.1.length + p.2.length + 1 := by
 unfold qEB
 by_cases h : isSp c.toNat = true
 ·by_cases h2 : p.2 = []
  ·simp [h,h2]
  ·have := List.length_pos_iff.mpr h2
   simp [h,h2]
 ·simp [h];omega
theorem qTV (s : List UInt8) (i : Nat) : (qGF s i).1.length + (qGF s i).2.length ≤ i := by
 induction i with
 | zero => simp [qGF]
 | succ i ih =>
  by_cases h : i < s.length
  ·rw [qCU s i h];have := qV0 (qGF s i) (s.getD i 0);omega
  ·have e : qGF s (i+1) = qGF s i := by rw [qJ2 s (i+1) (by omega),qJ2 s i (by omega)]
   rw [e];exact Nat.le_succ_of_le ih
theorem qN1 (s : List UInt8) (i : Nat) (h : i < s.length) : (s.take (i+1)).drop i = [s.getD i 0] := by
 rw [take_snoc s i 0 h,List.drop_append,List.length_take,Nat.min_eq_left (by omega)];simp
theorem qNG (i : Nat) : ((i:Int)+1).toNat = i+1 := by omega
theorem qeS {s : List UInt8} {i : Nat} (h : s.length ≤ i) (h2 : ¬ (qGF s i).2 = []) : spl s = (qGF s i).1 ++ [(qGF s i).2] := by
 unfold spl;rw [← qJ2 s i h];simp [qeF,h2]
theorem qdY {s : List UInt8} {i : Nat} (h : s.length ≤ i) (h2 : (qGF s i).2 = []) : spl s = (qGF s i).1 := by
 unfold spl;rw [← qJ2 s i h];simp [qeF,h2]
theorem qKQ {p : List (List UInt8) × List UInt8} {c : UInt8} (h : isSp c.toNat = false) : qEB p c = (p.1,p.2 ++ [c]) := by
 simp [qEB,h]
theorem qKT {p : List (List UInt8) × List UInt8} {c : UInt8} (h : isSp c.toNat = true) (h2 : p.2 = []) : qEB p c = (p.1,[]) := by
 simp [qEB,h,h2]
theorem qIC {p : List (List UInt8) × List UInt8} {c : UInt8} (h : isSp c.toNat = true) (h2 : ¬ p.2 = []) : qEB p c = (p.1 ++ [p.2],[]) := by
 simp [qEB,h,h2]
instance f35 (s : List UInt8) : Fn BB 104 [.str s] (s.length ≤ 100000) (.rd .str (spl s)) := by
 refine Fn.intro (N := 37) [0,2,3,4,5,9,16,25,31] [] Tryz.call104 Tryz.func104 rfl rfl (by kernel_rfl) (fun hpre => ?_)
 (conv => whnf)
 refine LoopStop.mk (α := Nat) (fun i => [(3,.own 0),(4,.str (qGF s i).2),(5,.int .i64 i)]) (fun i => [(0,.own .str (qGF s i).1)]) 1 (fun i => i ≤ s.length) (fun i => s.length - i) 0 (by simp) ?_ (fun i hi => ?_)
 ·repeat' ((conv => whnf);first|(with_reducible first|rfl|exact qAH|exact qAG)|exact True.intro|intro _|refine WA ?_ ?_|refine WF ?_|refine W1 rfl ?_ ?_|refine W2 rfl ?_ ?_|refine W3 rfl ?_ ?_|refine W4 ?_ ?_|refine W5 rfl ?_ ?_|refine W6 ?_ ?_|refine WN ?_|refine X1 (W1 rfl ?_ ?_)|refine X1 (W2 rfl ?_ ?_)|refine X2 (W7 rfl ?_ ?_)|refine X3 (W7 rfl ?_ ?_)|refine X4 (W7 rfl ?_ ?_)|refine X5 (W7 rfl ?_ ?_))
  all_goals (try (conv => whnf))
  all_goals (try rfl)
 ·have hl := qTV s i
  repeat' ((conv => whnf);first|(with_reducible first|rfl|exact qAH|exact qAG)|exact True.intro|intro _|refine WA ?_ ?_|refine WF ?_|refine W1 rfl ?_ ?_|refine W2 rfl ?_ ?_|refine W3 rfl ?_ ?_|refine W4 ?_ ?_|refine W5 rfl ?_ ?_|refine W6 ?_ ?_|refine WN ?_|refine X1 (W1 rfl ?_ ?_)|refine X1 (W2 rfl ?_ ?_)|refine X2 (W7 rfl ?_ ?_)|refine X3 (W7 rfl ?_ ?_)|refine X4 (W7 rfl ?_ ?_)|refine X5 (W7 rfl ?_ ?_))
  all_goals (try (conv => whnf))
  all_goals (try first|exact obA|refine Ob.mk ?_)
  all_goals (try simp only [ZA,ZB,ZC,ZD,ZE,ZF,ZG,ZH,ZI,ZJ,ZK,ZL,ZM,ZN,ZO,Int.toNat_natCast,UInt8.ofNat_toNat,cast_eq] at *)
  ·have h : i < s.length := by omega
   have e := qCU s i h
   rw [qKQ ‹_›] at e
   refine Rnd.mk ⟨i + 1,?_,?_,?_⟩
   ·exact h
   ·omega
   ·repeat' ((conv => whnf);first|(with_reducible first|rfl|exact qAH|exact qAG)|exact True.intro|intro _|refine WA ?_ ?_|refine WF ?_|refine W1 rfl ?_ ?_|refine W2 rfl ?_ ?_|refine W3 rfl ?_ ?_|refine W4 ?_ ?_|refine W5 rfl ?_ ?_|refine W6 ?_ ?_|refine WN ?_|refine X1 (W1 rfl ?_ ?_)|refine X1 (W2 rfl ?_ ?_)|refine X2 (W7 rfl ?_ ?_)|refine X3 (W7 rfl ?_ ?_)|refine X4 (W7 rfl ?_ ?_)|refine X5 (W7 rfl ?_ ?_))
    all_goals (try (conv => whnf))
    all_goals (try first|exact obA|refine Ob.mk ?_)
    all_goals (simp only [e,qNG,qN1 s i h];done)
  ·skip
   have h : i < s.length := by omega
   have e := qCU s i h
   rw [qIC ‹_› ‹_›] at e
   repeat' ((conv => whnf);first|(with_reducible first|rfl|exact qAH|exact qAG)|exact True.intro|intro _|refine WA ?_ ?_|refine WF ?_|refine W1 rfl ?_ ?_|refine W2 rfl ?_ ?_|refine W3 rfl ?_ ?_|refine W4 ?_ ?_|refine W5 rfl ?_ ?_|refine W6 ?_ ?_|refine WN ?_|refine X1 (W1 rfl ?_ ?_)|refine X1 (W2 rfl ?_ ?_)|refine X2 (W7 rfl ?_ ?_)|refine X3 (W7 rfl ?_ ?_)|refine X4 (W7 rfl ?_ ?_)|refine X5 (W7 rfl ?_ ?_))
   all_goals (try (conv => whnf))
   all_goals (try first|exact obA|refine Ob.mk ?_)
   refine Rnd.mk ⟨i + 1,?_,?_,?_⟩
   ·exact h
   ·omega
   ·repeat' ((conv => whnf);first|(with_reducible first|rfl|exact qAH|exact qAG)|exact True.intro|intro _|refine WA ?_ ?_|refine WF ?_|refine W1 rfl ?_ ?_|refine W2 rfl ?_ ?_|refine W3 rfl ?_ ?_|refine W4 ?_ ?_|refine W5 rfl ?_ ?_|refine W6 ?_ ?_|refine WN ?_|refine X1 (W1 rfl ?_ ?_)|refine X1 (W2 rfl ?_ ?_)|refine X2 (W7 rfl ?_ ?_)|refine X3 (W7 rfl ?_ ?_)|refine X4 (W7 rfl ?_ ?_)|refine X5 (W7 rfl ?_ ?_))
    all_goals (try (conv => whnf))
    all_goals (try first|exact obA|refine Ob.mk ?_)
    all_goals (simp only [e];done)
  ·have h : i < s.length := by omega
   have e := qCU s i h
   rw [qKT ‹_› ‹_›] at e
   refine Rnd.mk ⟨i + 1,?_,?_,?_⟩
   ·exact h
   ·omega
   ·repeat' ((conv => whnf);first|(with_reducible first|rfl|exact qAH|exact qAG)|exact True.intro|intro _|refine WA ?_ ?_|refine WF ?_|refine W1 rfl ?_ ?_|refine W2 rfl ?_ ?_|refine W3 rfl ?_ ?_|refine W4 ?_ ?_|refine W5 rfl ?_ ?_|refine W6 ?_ ?_|refine WN ?_|refine X1 (W1 rfl ?_ ?_)|refine X1 (W2 rfl ?_ ?_)|refine X2 (W7 rfl ?_ ?_)|refine X3 (W7 rfl ?_ ?_)|refine X4 (W7 rfl ?_ ?_)|refine X5 (W7 rfl ?_ ?_))
    all_goals (try (conv => whnf))
    all_goals (try first|exact obA|refine Ob.mk ?_)
    all_goals (simp only [e];done)
  ·skip
   repeat' ((conv => whnf);first|(with_reducible first|rfl|exact qAH|exact qAG)|exact True.intro|intro _|refine WA ?_ ?_|refine WF ?_|refine W1 rfl ?_ ?_|refine W2 rfl ?_ ?_|refine W3 rfl ?_ ?_|refine W4 ?_ ?_|refine W5 rfl ?_ ?_|refine W6 ?_ ?_|refine WN ?_|refine X1 (W1 rfl ?_ ?_)|refine X1 (W2 rfl ?_ ?_)|refine X2 (W7 rfl ?_ ?_)|refine X3 (W7 rfl ?_ ?_)|refine X4 (W7 rfl ?_ ?_)|refine X5 (W7 rfl ?_ ?_))
   all_goals (try (conv => whnf))
   rw [qeS (i := i) (by omega) ‹_›]
  ·rw [qdY (i := i) (by omega) ‹_›]
end Go.Vc.W

namespace Go.Vc.W
open Go.Proofs
set_option maxRecDepth 10000
instance f29 (s w : List UInt8) : Fn BB 72 [.str s,.str w] (s.length ≤ 100000) (.bool ((spl s).contains w)) := by
 refine Fn.intro (N := 9) [0,1,4] [] Tryz.call72 Tryz.func72 rfl rfl (by kernel_rfl) (fun hpre => ?_)
 all_goals exact vcA
theorem qJH {l : List (List UInt8)} {i : Nat} (h : i < l.length) : l.contains (l.getD i []) = true := by
 simp [List.getD,List.getElem?_eq_getElem h]
def qMD (l : List (List UInt8)) (w : List UInt8) : Int := if l.contains w then (l.idxOf w : Int) else -1
theorem qHS {l : List (List UInt8)} {w : List UInt8} (h : l.contains w = false) : qMD l w = -1 := by rw [qMD,h];rfl
theorem qM8 {l : List (List UInt8)} {w : List UInt8} {i : Nat} (h : i < l.length) (h1 : (l.take i).contains w = false) (h2 : w = l.getD i []) : qMD l w = i := by
 rw [qMD,h2,qJH h, ← h2,if_pos rfl]
 have e := List.take_append_drop i l
 rw [← e,List.idxOf_append,if_neg (by simpa using h1),List.length_take,Nat.min_eq_left (by omega)]
 have e2 : l.drop i = w :: l.drop (i+1) := by rw [List.drop_eq_getElem_cons h,h2];simp [List.getD,List.getElem?_eq_getElem h]
 rw [e2,List.idxOf_cons_self];simp
instance f37 (l : List (List UInt8)) (w : List UInt8) : Fn BB 173 [.rd .str l,.str w] True (.int .i64 (qMD l w)) := by
 refine Fn.intro (N := 19) [0,1,4,5,7,8,9,16] [] Tryz.call173 Tryz.func173 rfl rfl (by kernel_rfl) (fun hpre => ?_)
 (conv => whnf)
 intro hlen
 (conv => whnf)
 refine LoopStop.mk (α := Nat) (fun i => [(8,.int .i64 i)]) (fun i => []) 0 (fun i => i ≤ l.length ∧ (l.take i).contains w = false) (fun i => l.length - i) 0 (by simp) ?_ (fun i hi => ?_)
 ·repeat' ((conv => whnf);first|(with_reducible first|rfl|exact qAH|exact qAG)|exact True.intro|intro _|refine WA ?_ ?_|refine WF ?_|refine W1 rfl ?_ ?_|refine W2 rfl ?_ ?_|refine W3 rfl ?_ ?_|refine W4 ?_ ?_|refine W5 rfl ?_ ?_|refine W6 ?_ ?_|refine WN ?_|refine X1 (W1 rfl ?_ ?_)|refine X1 (W2 rfl ?_ ?_)|refine X2 (W7 rfl ?_ ?_)|refine X3 (W7 rfl ?_ ?_)|refine X4 (W7 rfl ?_ ?_)|refine X5 (W7 rfl ?_ ?_))
  all_goals (try (conv => whnf))
  all_goals (try rfl)
 ·repeat' ((conv => whnf);first|(with_reducible first|rfl|exact qAH|exact qAG)|exact True.intro|intro _|refine WA ?_ ?_|refine WF ?_|refine W1 rfl ?_ ?_|refine W2 rfl ?_ ?_|refine W3 rfl ?_ ?_|refine W4 ?_ ?_|refine W5 rfl ?_ ?_|refine W6 ?_ ?_|refine WN ?_|refine X1 (W1 rfl ?_ ?_)|refine X1 (W2 rfl ?_ ?_)|refine X2 (W7 rfl ?_ ?_)|refine X3 (W7 rfl ?_ ?_)|refine X4 (W7 rfl ?_ ?_)|refine X5 (W7 rfl ?_ ?_))
  all_goals (try (conv => whnf))
  all_goals (try first|exact obA|refine Ob.mk ?_)
  all_goals (try simp only [ZA,ZB,ZC,ZD,ZE,ZF,ZG,ZH,ZI,ZJ,ZK,ZL,ZM,ZN,ZO,Int.toNat_natCast,UInt8.ofNat_toNat,cast_eq] at *)
  ·rw [qM8 (by omega) hi.2 ‹_›]
  ·have h : i < l.length := by omega
   refine Rnd.mk ⟨i + 1,?_,?_,?_⟩
   ·refine ⟨by omega,?_⟩
    rw [qG8 l i w h,hi.2,Bool.false_or];exact beq_eq_false_iff_ne.mpr (fun e => by simp_all)
   ·omega
   ·all_goals exact vcA
  ·have : i = l.length := by omega
   subst this
   rw [qHS (by simpa using hi.2)]
instance f32 (l : List (List UInt8)) (w : List UInt8) : Fn BB 139 [.rd .str l,.str w] True (.bool (decide (qMD l w ≥ 0))) := by
 refine Fn.intro (N := 9) [0,1,4] [] Tryz.call139 Tryz.func139 rfl rfl (by kernel_rfl) (fun hpre => ?_)
 all_goals exact vcA
end Go.Vc.W

namespace Go.Vc.W
open Go.Proofs
set_option maxRecDepth 10000
def spR (r : Int) : Bool := decide (r < 128) && isSp (IntKind.u8.wrap r)
instance f39 (r : Int) : Fn BB 147 [.int .i32 r] (0 ≤ r) (.bool (spR r)) := by
 refine Fn.intro (N := 10) [0,2] [] Tryz.call147 Tryz.func147 rfl rfl (by kernel_rfl) (fun hpre => ?_)
 all_goals exact vcA
theorem getB (s : List UInt8) (j : Nat) : (ByteArray.get! ⟨s.toArray⟩ j) = s.getD j 0 := by
 by_cases h : j < s.length
 ·have : j < s.toArray.size := by simpa using h
  simp [ByteArray.get!,List.getD,h]
 ·simp [ByteArray.get!,List.getD,h];rfl
theorem qHU (s : List UInt8) (pos : Nat) (h : pos < s.length) : 1 ≤ (qFV s pos).2 ∧ pos + (qFV s pos).2 ≤ s.length ∧
  (if (qFV s pos).1 < 128 then (qFV s pos).2 = 1 ∧ (qFV s pos).1 = (s.getD pos 0).toNat else ∀ j,pos ≤ j → j < pos + (qFV s pos).2 → 128 ≤ (s.getD j 0).toNat) := by
 have hsz : ByteArray.size ⟨s.toArray⟩ = s.length := by simp [ByteArray.size]
 have hb : ∀ j,(s.getD j 0).toNat < 256 := fun j => UInt8.toNat_lt _
 unfold qFV Utf8.decode
 simp only [getB,hsz,Nat.add_zero]
 generalize e0 : (s.getD pos 0).toNat = b0
 generalize e1 : (s.getD (pos+1) 0).toNat = b1
 generalize e2 : (s.getD (pos+2) 0).toNat = b2
 generalize e3 : (s.getD (pos+3) 0).toNat = b3
 have k0 := hb pos
 have k1 := hb (pos+1)
 have k2 := hb (pos+2)
 have k3 := hb (pos+3)
 rw [e0] at k0;rw [e1] at k1;rw [e2] at k2;rw [e3] at k3
 have one : ∀ j,pos ≤ j → j < pos + 1 → (s.getD j 0).toNat = b0 := fun j h1 h2 => by
  have : j = pos := by omega
  subst this;exact e0
 split
 ·simp;omega
 ·rename_i hb0
  have fallb : ∀ j,pos ≤ j → j < pos + 1 → 128 ≤ (s.getD j 0).toNat := fun j h1 h2 => by rw [one j h1 h2];omega
  have err : 1 ≤ ((Utf8.runeError,1) : Nat × Nat).2 ∧ pos + ((Utf8.runeError,1) : Nat × Nat).2 ≤ s.length ∧ (if ((Utf8.runeError,1) : Nat × Nat).1 < 128 then ((Utf8.runeError,1) : Nat × Nat).2 = 1 ∧ ((Utf8.runeError,1) : Nat × Nat).1 = b0 else ∀ j,pos ≤ j → j < pos + ((Utf8.runeError,1) : Nat × Nat).2 → 128 ≤ (s.getD j 0).toNat) := by
   refine ⟨Nat.le_refl _,h,?_⟩
   rw [if_neg (by decide)];exact fallb
  split
  ·rename_i h2
   simp only [Bool.and_eq_true,decide_eq_true_eq,beq_iff_eq] at h2
   split
   ·refine ⟨by simp,by simp;omega,?_⟩
    rw [if_neg (by simp;omega)]
    intro j h3 h4
    have : j = pos ∨ j = pos + 1 := by simp at h4;omega
    rcases this with rfl | rfl
    ·rw [e0];omega
    ·rw [e1];omega
   ·exact err
  ·split
   ·rename_i h2
    simp only [Bool.and_eq_true,decide_eq_true_eq,beq_iff_eq] at h2
    split
    ·rename_i h5
     simp only [Bool.and_eq_true,decide_eq_true_eq,beq_iff_eq] at h5
     refine ⟨by simp,by simp;omega,?_⟩
     rw [if_neg (by simp;omega)]
     intro j h3 h4
     have : j = pos ∨ j = pos + 1 ∨ j = pos + 2 := by simp at h4;omega
     rcases this with rfl | rfl | rfl
     ·rw [e0];omega
     ·rw [e1];omega
     ·rw [e2];omega
    ·exact err
   ·split
    ·rename_i h2
     simp only [Bool.and_eq_true,decide_eq_true_eq,beq_iff_eq] at h2
     split
     ·rename_i h5
      simp only [Bool.and_eq_true,decide_eq_true_eq,beq_iff_eq] at h5
      refine ⟨by simp,by simp;omega,?_⟩
      rw [if_neg (by simp;omega)]
      intro j h3 h4
      have : j = pos ∨ j = pos + 1 ∨ j = pos + 2 ∨ j = pos + 3 := by simp at h4;omega
      rcases this with rfl | rfl | rfl | rfl
      ·rw [e0];omega
      ·rw [e1];omega
      ·rw [e2];omega
      ·rw [e3];omega
     ·exact err
    ·exact err
def cut (s : List UInt8) (p : Int × Int) : List UInt8 := (s.take p.2.toNat).drop p.1.toNat
theorem qYZ {c : Nat} (h : 128 ≤ c) : isSp c = false := by
 simp only [isSp,Bool.or_eq_false_iff,beq_eq_false_iff_ne];omega
theorem qJS (s : List UInt8) (i pos : Nat) (h : i ≤ pos) (h2 : pos < s.length) : cut s (i,(pos+1:Nat)) = cut s (i,pos) ++ [s.getD pos 0] := by
 unfold cut
 simp only [Int.toNat_natCast]
 rw [take_snoc s pos 0 h2,List.drop_append_of_le_length (by rw [List.length_take];omega)]
theorem qTG (s : List UInt8) (pos k : Nat) (h : pos + k ≤ s.length) (hh : ∀ j,pos ≤ j → j < pos + k → isSp (s.getD j 0).toNat = false) :
  qGF s (pos + k) = ((qGF s pos).1,(qGF s pos).2 ++ cut s (pos,(pos + k : Nat))) := by
 induction k with
 | zero => simp [cut]
 | succ k ih =>
  rw [← Nat.add_assoc,qCU s _ (by omega),qKQ (hh _ (by omega) (by omega)),ih (by omega) (fun j h1 h2 => hh j h1 (by omega)),qJS s pos (pos+k) (by omega) (by omega)]
  simp
theorem qdM (s : List UInt8) (i j k : Nat) (h : i ≤ j) (h2 : j ≤ k) (h3 : k ≤ s.length) : cut s (i,j) ++ cut s (j,k) = cut s (i,k) := by
  induction k with
  | zero => have : j = 0 := by omega
            have : i = 0 := by omega
            subst_vars;simp [cut]
  | succ k ih =>
    by_cases e : j = k + 1
    · subst e;simp [cut]
    · rw [qJS s j k (by omega) (by omega),qJS s i k (by omega) (by omega), ← List.append_assoc,ih (by omega) (by omega)]
end Go.Vc.W

namespace Go.Vc.W
open Go.Proofs
set_option maxRecDepth 10000
structure FS where
 pos : Nat
 spans : List (Int × Int)
 start : Int
structure FSok (s : List UInt8) (a : FS) : Prop where
 hp : a.pos ≤ s.length
 hs : a.spans.map (cut s) = (qGF s a.pos).1
 hr : ∀ p ∈ a.spans,0 ≤ p.1 ∧ p.1 ≤ p.2 ∧ p.2 ≤ s.length
 hb : -(s.length : Int) - 1 ≤ a.start ∧ a.start ≤ s.length
 hw : if a.start < 0 then (qGF s a.pos).2 = [] else a.start < a.pos ∧ (qGF s a.pos).2 = cut s (a.start,a.pos)
theorem FSok.len {s : List UInt8} {a : FS} (h : FSok s a) : a.spans.length ≤ a.pos := by
 have := qTV s a.pos
 rw [← h.hs,List.length_map] at this;omega
theorem qbZ {s : List UInt8} {i : Int} {j : Nat} (h0 : 0 ≤ i) (h : i < j) (h2 : j ≤ s.length) : ¬ cut s (i,j) = [] := by
 intro e
 have := congrArg List.length e
 simp [cut] at this
 omega
theorem qTS {s : List UInt8} {pos : Nat} (h : pos < s.length) :
  (spR (qFV s pos).1 = true → (qFV s pos).2 = 1 ∧ isSp (s.getD pos 0).toNat = true) ∧
  (spR (qFV s pos).1 = false → pos < pos + (qFV s pos).2 ∧ pos + (qFV s pos).2 ≤ s.length ∧ ∀ j,pos ≤ j → j < pos + (qFV s pos).2 → isSp (s.getD j 0).toNat = false) := by
 have ⟨d1,d2,d3⟩ := qHU s pos h
 have hw : (qFV s pos).1 < 128 → IntKind.u8.wrap ((qFV s pos).1 : Int) = (qFV s pos).1 := fun hh => by
  simp [IntKind.wrap,IntKind.signed,IntKind.bits];omega
 by_cases hh : (qFV s pos).1 < 128
 ·rw [if_pos hh] at d3
  have e : spR (qFV s pos).1 = isSp (s.getD pos 0).toNat := by
   unfold spR;rw [hw hh,decide_eq_true (by omega),Bool.true_and,d3.2]
  rw [e]
  refine ⟨fun k => ⟨d3.1,k⟩,fun k => ⟨by omega,d2,fun j h1 h2 => ?_⟩⟩
  have : j = pos := by omega
  subst this;exact k
 ·rw [if_neg hh] at d3
  have e : spR (qFV s pos).1 = false := by unfold spR;simp;intro k;omega
  rw [e]
  refine ⟨fun k => (nomatch k),fun _ => ⟨by omega,d2,fun j h1 h2 => qYZ (d3 j h1 h2)⟩⟩
theorem ql7 {s : List UInt8} {a : FS} (h : FSok s a) (h1 : a.pos < s.length) (h2 : spR (qFV s a.pos).1 = true) (h3 : 0 ≤ a.start) :
  FSok s ⟨a.pos + (qFV s a.pos).2,a.spans ++ [(a.start,(a.pos:Int))], -a.start - 1⟩ := by
 have ⟨e1,e2⟩ := (qTS h1).1 h2
 have hw := h.hw;rw [if_neg (by omega)] at hw
 have hb := h.hb
 have e := qCU s a.pos h1
 rw [qIC e2 (by rw [hw.2];exact qbZ h3 hw.1 h.hp)] at e
 constructor
 ·simp only [e1];omega
 ·simp only [e1,e,List.map_append,h.hs,hw.2];rfl
 ·intro p hp
  rcases List.mem_append.mp hp with hp | hp
  ·exact h.hr p hp
  ·simp at hp;subst hp;simp;omega
 ·simp;omega
 ·rw [if_pos (by simp;omega)];simp only [e1,e]
theorem qiL {s : List UInt8} {a : FS} (h : FSok s a) (h1 : a.pos < s.length) (h2 : spR (qFV s a.pos).1 = true) (h3 : a.start < 0) :
  FSok s ⟨a.pos + (qFV s a.pos).2,a.spans,a.start⟩ := by
 have ⟨e1,e2⟩ := (qTS h1).1 h2
 have hw := h.hw;rw [if_pos (by omega)] at hw
 have e := qCU s a.pos h1
 rw [qKT e2 hw] at e
 constructor
 ·simp only [e1];omega
 ·simp only [e1,e,h.hs]
 ·exact h.hr
 ·exact h.hb
 ·rw [if_pos (by simpa using h3)];simp only [e1,e]
theorem qfX {s : List UInt8} {a : FS} (h : FSok s a) (h1 : a.pos < s.length) (h2 : spR (qFV s a.pos).1 = false) (h3 : 0 ≤ a.start) :
  FSok s ⟨a.pos + (qFV s a.pos).2,a.spans,a.start⟩ := by
 have ⟨e0,e1,e2⟩ := (qTS h1).2 h2
 have hw := h.hw;rw [if_neg (by omega)] at hw
 have e := qTG s a.pos _ e1 e2
 constructor
 ·exact e1
 ·simp only [e,h.hs]
 ·exact h.hr
 ·exact h.hb
 ·rw [if_neg (by simp;omega)];simp only [e]
  refine ⟨by omega,?_⟩
  rw [hw.2]
  obtain ⟨i,hi⟩ : ∃ i : Nat,a.start = i := ⟨a.start.toNat,by omega⟩
  rw [hi,qdM s i a.pos _ (by omega) (by omega) e1]
theorem qhT {s : List UInt8} {a : FS} (h : FSok s a) (h1 : a.pos < s.length) (h2 : spR (qFV s a.pos).1 = false) (h3 : a.start < 0) :
  FSok s ⟨a.pos + (qFV s a.pos).2,a.spans,(a.pos : Int)⟩ := by
 have ⟨e0,e1,e2⟩ := (qTS h1).2 h2
 have hw := h.hw;rw [if_pos (by omega)] at hw
 have e := qTG s a.pos _ e1 e2
 constructor
 ·exact e1
 ·simp only [e,h.hs]
 ·exact h.hr
 ·simp;omega
 ·rw [if_neg (by simp)];simp only [e]
  refine ⟨by omega,?_⟩
  rw [hw];rfl
theorem qd2 {s : List UInt8} {a : FS} (h : FSok s a) (h1 : ¬ a.pos < s.length) (h3 : 0 ≤ a.start) :
  (a.spans ++ [(a.start,(s.length:Int))]).map (cut s) = spl s ∧ ∀ p ∈ (a.spans ++ [(a.start,(s.length:Int))]),0 ≤ p.1 ∧ p.1 ≤ p.2 ∧ p.2 ≤ s.length := by
 have hp := h.hp
 have e : a.pos = s.length := by omega
 have hw := h.hw;rw [if_neg (by omega)] at hw
 have hb := h.hb
 refine ⟨?_,?_⟩
 ·rw [qeS (i := a.pos) (by omega) (by rw [hw.2];exact qbZ h3 hw.1 h.hp),hw.2, ← h.hs,e,List.map_append];rfl
 ·intro p hp
  rcases List.mem_append.mp hp with hp | hp
  ·exact h.hr p hp
  ·simp at hp;subst hp;simp;omega
theorem qdT {s : List UInt8} {a : FS} (h : FSok s a) (h1 : ¬ a.pos < s.length) (h3 : a.start < 0) :
  a.spans.map (cut s) = spl s ∧ ∀ p ∈ a.spans,0 ≤ p.1 ∧ p.1 ≤ p.2 ∧ p.2 ≤ s.length := by
 have hp := h.hp
 have e : a.pos = s.length := by omega
 have hw := h.hw;rw [if_pos (by omega)] at hw
 exact ⟨by rw [qdY (i := a.pos) (by omega) hw,h.hs],h.hr⟩
end Go.Vc.W

namespace Go.Vc.W
open Go.Proofs
set_option maxRecDepth 10000
theorem qa1 (x : Int) (h : -100001 ≤ x ∧ x ≤ 100000) : qLI BinOp.xor IntKind.i64 (if IntKind.i64.signed = true then -1 else IntKind.i64.max) x = -x - 1 := by
 have e : (if IntKind.i64.signed = true then (-1:Int) else IntKind.i64.max) = -1 := rfl
 rw [e]
 show IntKind.wrap .i64 ((BitVec.ofInt 64 (-1) ^^^ BitVec.ofInt 64 x).toNat : Int) = _
 have e2 : BitVec.ofInt 64 (-1) = BitVec.allOnes 64 := by decide
 rw [e2,BitVec.allOnes_xor,BitVec.toNat_not,BitVec.toNat_ofInt]
 simp [IntKind.wrap,IntKind.signed,IntKind.bits]
 omega
def fin2 (s : List UInt8) (sp : List (Int × Int)) (i : Nat) : List (List UInt8) := (sp.take i).map (cut s) ++ List.replicate (sp.length - i) []
theorem qJV (s : List UInt8) (sp : List (Int × Int)) (i : Nat) (h : i ≤ sp.length) : (fin2 s sp i).length = sp.length := by
 simp [fin2];omega
theorem qUK (s : List UInt8) (sp : List (Int × Int)) (i : Nat) (h : i < sp.length) : (fin2 s sp i).set i (cut s (sp.getD i (0,0))) = fin2 s sp (i+1) := by
 unfold fin2
 rw [take_snoc sp i (0,0) h]
 have e : sp.length - i = (sp.length - (i+1)) + 1 := by omega
 rw [e,List.replicate_succ,List.set_append_right _ _ (by simp;omega)]
 simp
 have : i - min i sp.length = 0 := by omega
 rw [this];simp
theorem qTO (s : List UInt8) (sp : List (Int × Int)) (i : Nat) (h : sp.length ≤ i) : fin2 s sp i = sp.map (cut s) := by
 unfold fin2;rw [List.take_of_length_le h];simp;omega
theorem qQV {α : Type} {l : List α} {i : Nat} {d : α} (h : i < l.length) : l.getD i d ∈ l := by
 simp [List.getD,List.getElem?_eq_getElem h]
instance f38 (s : List UInt8) : Fn BB 146 [.str s,.fn 147 []] (s.length ≤ 100000) (.rd .str (spl s)) := by
 refine Fn.intro (N := 65) [0,1,4,5,6,7,8,9,10,11,14,15,16,21,23,33,36,47,48,49,50] [] Tryz.call146 Tryz.func146 rfl rfl (by kernel_rfl) (fun hpre => ?_)
 repeat' ((conv => whnf);first|(with_reducible first|rfl|exact qAH|exact qAG)|exact True.intro|intro _|refine WA ?_ ?_|refine WF ?_|refine W1 rfl ?_ ?_|refine W2 rfl ?_ ?_|refine W3 rfl ?_ ?_|refine W4 ?_ ?_|refine W5 rfl ?_ ?_|refine W6 ?_ ?_|refine WN ?_|refine X1 (W1 rfl ?_ ?_)|refine X1 (W2 rfl ?_ ?_)|refine X2 (W7 rfl ?_ ?_)|refine X3 (W7 rfl ?_ ?_)|refine X4 (W7 rfl ?_ ?_)|refine X5 (W7 rfl ?_ ?_))
 all_goals (try (conv => whnf))
 all_goals (try first|exact obA|refine Ob.mk ?_)
 repeat' ((conv => whnf);first|(with_reducible first|rfl|exact qAH|exact qAG)|exact True.intro|intro _|refine WA ?_ ?_|refine WF ?_|refine W1 rfl ?_ ?_|refine W2 rfl ?_ ?_|refine W3 rfl ?_ ?_|refine W4 ?_ ?_|refine W5 rfl ?_ ?_|refine W6 ?_ ?_|refine WN ?_|refine X1 (W1 rfl ?_ ?_)|refine X1 (W2 rfl ?_ ?_)|refine X2 (W7 rfl ?_ ?_)|refine X3 (W7 rfl ?_ ?_)|refine X4 (W7 rfl ?_ ?_)|refine X5 (W7 rfl ?_ ?_))
 all_goals (try (conv => whnf))
 refine LoopStop.mk (α := FS) (fun a => [(5,.own 0),(6,.int .i64 a.start)]) (fun a => [(0,.own qfD a.spans),(1,.iter s a.pos)]) 2 (FSok s) (fun a => s.length - a.pos) ⟨0,[], -1⟩ ⟨by simp,by simp [qGF],by simp,by simp;omega,by simp [qGF]⟩ ?_ (fun a ha => ?_)
 ·repeat' ((conv => whnf);first|(with_reducible first|rfl|exact qAH|exact qAG)|exact True.intro|intro _|refine WA ?_ ?_|refine WF ?_|refine W1 rfl ?_ ?_|refine W2 rfl ?_ ?_|refine W3 rfl ?_ ?_|refine W4 ?_ ?_|refine W5 rfl ?_ ?_|refine W6 ?_ ?_|refine WN ?_|refine X1 (W1 rfl ?_ ?_)|refine X1 (W2 rfl ?_ ?_)|refine X2 (W7 rfl ?_ ?_)|refine X3 (W7 rfl ?_ ?_)|refine X4 (W7 rfl ?_ ?_)|refine X5 (W7 rfl ?_ ?_))
  all_goals (try (conv => whnf))
  all_goals (try rfl)
  all_goals trace_state
 ·have hl := ha.len
  have h1 := ha.hp
  have h2 := ha.hb
  repeat' ((conv => whnf);first|(with_reducible first|rfl|exact qAH|exact qAG)|exact True.intro|intro _|refine WA ?_ ?_|refine WF ?_|refine W1 rfl ?_ ?_|refine W2 rfl ?_ ?_|refine W3 rfl ?_ ?_|refine W4 ?_ ?_|refine W5 rfl ?_ ?_|refine W6 ?_ ?_|refine WN ?_|refine X1 (W1 rfl ?_ ?_)|refine X1 (W2 rfl ?_ ?_)|refine X2 (W7 rfl ?_ ?_)|refine X3 (W7 rfl ?_ ?_)|refine X4 (W7 rfl ?_ ?_)|refine X5 (W7 rfl ?_ ?_))
  all_goals (try (conv => whnf))
  all_goals (try first|exact obA|refine Ob.mk ?_)
  all_goals (try simp only [ZA,ZB,ZC,ZD,ZE,ZF,ZG,ZH,ZI,ZJ,ZK,ZL,ZM,ZN,ZO,Int.toNat_natCast,UInt8.ofNat_toNat,cast_eq] at *)
  ·skip
   repeat' ((conv => whnf);first|(with_reducible first|rfl|exact qAH|exact qAG)|exact True.intro|intro _|refine WA ?_ ?_|refine WF ?_|refine W1 rfl ?_ ?_|refine W2 rfl ?_ ?_|refine W3 rfl ?_ ?_|refine W4 ?_ ?_|refine W5 rfl ?_ ?_|refine W6 ?_ ?_|refine WN ?_|refine X1 (W1 rfl ?_ ?_)|refine X1 (W2 rfl ?_ ?_)|refine X2 (W7 rfl ?_ ?_)|refine X3 (W7 rfl ?_ ?_)|refine X4 (W7 rfl ?_ ?_)|refine X5 (W7 rfl ?_ ?_))
   all_goals (try (conv => whnf))
   all_goals (try first|exact obA|refine Ob.mk ?_)
   refine Rnd.mk ⟨⟨a.pos + (qFV s a.pos).2,a.spans ++ [(a.start,(a.pos:Int))], -a.start - 1⟩,?_,?_,?_⟩
   ·exact ql7 ha ‹_› ‹_› (by omega)
   ·have := (qHU s a.pos ‹_›).1;simp;omega
   ·repeat' ((conv => whnf);first|(with_reducible first|rfl|exact qAH|exact qAG)|exact True.intro|intro _|refine WA ?_ ?_|refine WF ?_|refine W1 rfl ?_ ?_|refine W2 rfl ?_ ?_|refine W3 rfl ?_ ?_|refine W4 ?_ ?_|refine W5 rfl ?_ ?_|refine W6 ?_ ?_|refine WN ?_|refine X1 (W1 rfl ?_ ?_)|refine X1 (W2 rfl ?_ ?_)|refine X2 (W7 rfl ?_ ?_)|refine X3 (W7 rfl ?_ ?_)|refine X4 (W7 rfl ?_ ?_)|refine X5 (W7 rfl ?_ ?_))
    all_goals (try (conv => whnf))
    all_goals (try first|exact obA|refine Ob.mk ?_)
    all_goals (first | (rw [qa1 _ (by omega)];done) | skip)
    all_goals trace_state
  ·have := (qHU s a.pos ‹_›).1
   refine Rnd.mk ⟨⟨a.pos + (qFV s a.pos).2,a.spans,a.start⟩,?_,?_,?_⟩
   ·exact qiL ha ‹_› ‹_› (by omega)
   ·simp;omega
   ·repeat' ((conv => whnf);first|(with_reducible first|rfl|exact qAH|exact qAG)|exact True.intro|intro _|refine WA ?_ ?_|refine WF ?_|refine W1 rfl ?_ ?_|refine W2 rfl ?_ ?_|refine W3 rfl ?_ ?_|refine W4 ?_ ?_|refine W5 rfl ?_ ?_|refine W6 ?_ ?_|refine WN ?_|refine X1 (W1 rfl ?_ ?_)|refine X1 (W2 rfl ?_ ?_)|refine X2 (W7 rfl ?_ ?_)|refine X3 (W7 rfl ?_ ?_)|refine X4 (W7 rfl ?_ ?_)|refine X5 (W7 rfl ?_ ?_))
    all_goals (try (conv => whnf))
    all_goals (try first|exact obA|refine Ob.mk ?_)
    all_goals trace_state
  ·have := (qHU s a.pos ‹_›).1
   refine Rnd.mk ⟨⟨a.pos + (qFV s a.pos).2,a.spans,a.pos⟩,?_,?_,?_⟩
   ·exact qhT ha ‹_› ‹_› (by omega)
   ·simp;omega
   ·repeat' ((conv => whnf);first|(with_reducible first|rfl|exact qAH|exact qAG)|exact True.intro|intro _|refine WA ?_ ?_|refine WF ?_|refine W1 rfl ?_ ?_|refine W2 rfl ?_ ?_|refine W3 rfl ?_ ?_|refine W4 ?_ ?_|refine W5 rfl ?_ ?_|refine W6 ?_ ?_|refine WN ?_|refine X1 (W1 rfl ?_ ?_)|refine X1 (W2 rfl ?_ ?_)|refine X2 (W7 rfl ?_ ?_)|refine X3 (W7 rfl ?_ ?_)|refine X4 (W7 rfl ?_ ?_)|refine X5 (W7 rfl ?_ ?_))
    all_goals (try (conv => whnf))
    all_goals (try first|exact obA|refine Ob.mk ?_)
    all_goals trace_state
  ·have := (qHU s a.pos ‹_›).1
   refine Rnd.mk ⟨⟨a.pos + (qFV s a.pos).2,a.spans,a.start⟩,?_,?_,?_⟩
   ·exact qfX ha ‹_› ‹_› (by omega)
   ·simp;omega
   ·repeat' ((conv => whnf);first|(with_reducible first|rfl|exact qAH|exact qAG)|exact True.intro|intro _|refine WA ?_ ?_|refine WF ?_|refine W1 rfl ?_ ?_|refine W2 rfl ?_ ?_|refine W3 rfl ?_ ?_|refine W4 ?_ ?_|refine W5 rfl ?_ ?_|refine W6 ?_ ?_|refine WN ?_|refine X1 (W1 rfl ?_ ?_)|refine X1 (W2 rfl ?_ ?_)|refine X2 (W7 rfl ?_ ?_)|refine X3 (W7 rfl ?_ ?_)|refine X4 (W7 rfl ?_ ?_)|refine X5 (W7 rfl ?_ ?_))
    all_goals (try (conv => whnf))
    all_goals (try first|exact obA|refine Ob.mk ?_)
    all_goals trace_state
  ·skip
   have hh := qd2 ha ‹_› (by omega)
   have hlen : (a.spans ++ [(a.start,(s.length:Int))]).length ≤ s.length + 1 := by simp;omega
   revert hh hlen
   generalize a.spans ++ [(a.start,(s.length:Int))] = sp
   intro hh hlen
   repeat' ((conv => whnf);first|(with_reducible first|rfl|exact qAH|exact qAG)|exact True.intro|intro _|refine WA ?_ ?_|refine WF ?_|refine W1 rfl ?_ ?_|refine W2 rfl ?_ ?_|refine W3 rfl ?_ ?_|refine W4 ?_ ?_|refine W5 rfl ?_ ?_|refine W6 ?_ ?_|refine WN ?_|refine X1 (W1 rfl ?_ ?_)|refine X1 (W2 rfl ?_ ?_)|refine X2 (W7 rfl ?_ ?_)|refine X3 (W7 rfl ?_ ?_)|refine X4 (W7 rfl ?_ ?_)|refine X5 (W7 rfl ?_ ?_))
   all_goals (try (conv => whnf))
   all_goals (try first|exact obA|refine Ob.mk ?_)
   repeat' ((conv => whnf);first|(with_reducible first|rfl|exact qAH|exact qAG)|exact True.intro|intro _|refine WA ?_ ?_|refine WF ?_|refine W1 rfl ?_ ?_|refine W2 rfl ?_ ?_|refine W3 rfl ?_ ?_|refine W4 ?_ ?_|refine W5 rfl ?_ ?_|refine W6 ?_ ?_|refine WN ?_|refine X1 (W1 rfl ?_ ?_)|refine X1 (W2 rfl ?_ ?_)|refine X2 (W7 rfl ?_ ?_)|refine X3 (W7 rfl ?_ ?_)|refine X4 (W7 rfl ?_ ?_)|refine X5 (W7 rfl ?_ ?_))
   all_goals (try (conv => whnf))
   refine LoopStop.mk (α := Nat) (fun i => [(49,.int .i64 i)]) (fun i => [(3,.own .str (fin2 s sp i))]) 20 (fun i => i ≤ sp.length) (fun i => sp.length - i) 0 (by simp) ?_ (fun i hi => ?_)
   ·repeat' ((conv => whnf);first|(with_reducible first|rfl|exact qAH|exact qAG)|exact True.intro|intro _|refine WA ?_ ?_|refine WF ?_|refine W1 rfl ?_ ?_|refine W2 rfl ?_ ?_|refine W3 rfl ?_ ?_|refine W4 ?_ ?_|refine W5 rfl ?_ ?_|refine W6 ?_ ?_|refine WN ?_|refine X1 (W1 rfl ?_ ?_)|refine X1 (W2 rfl ?_ ?_)|refine X2 (W7 rfl ?_ ?_)|refine X3 (W7 rfl ?_ ?_)|refine X4 (W7 rfl ?_ ?_)|refine X5 (W7 rfl ?_ ?_))
    all_goals (try (conv => whnf))
    all_goals (try rfl)
    all_goals trace_state
   ·repeat' ((conv => whnf);first|(with_reducible first|rfl|exact qAH|exact qAG)|exact True.intro|intro _|refine WA ?_ ?_|refine WF ?_|refine W1 rfl ?_ ?_|refine W2 rfl ?_ ?_|refine W3 rfl ?_ ?_|refine W4 ?_ ?_|refine W5 rfl ?_ ?_|refine W6 ?_ ?_|refine WN ?_|refine X1 (W1 rfl ?_ ?_)|refine X1 (W2 rfl ?_ ?_)|refine X2 (W7 rfl ?_ ?_)|refine X3 (W7 rfl ?_ ?_)|refine X4 (W7 rfl ?_ ?_)|refine X5 (W7 rfl ?_ ?_))
    all_goals (try (conv => whnf))
    all_goals (try first|exact obA|refine Ob.mk ?_)
    all_goals (try simp only [ZA,ZB,ZC,ZD,ZE,ZF,ZG,ZH,ZI,ZJ,ZK,ZL,ZM,ZN,ZO,Int.toNat_natCast,UInt8.ofNat_toNat,cast_eq] at *)
    ·exact hh.2 _ (qQV (by omega))
    ·rw [qJV s sp i hi];omega
    ·rw [qJV s sp i hi];omega
    ·skip
     have e := qUK s sp i (by omega)
     repeat' ((conv => whnf);first|(with_reducible first|rfl|exact qAH|exact qAG)|exact True.intro|intro _|refine WA ?_ ?_|refine WF ?_|refine W1 rfl ?_ ?_|refine W2 rfl ?_ ?_|refine W3 rfl ?_ ?_|refine W4 ?_ ?_|refine W5 rfl ?_ ?_|refine W6 ?_ ?_|refine WN ?_|refine X1 (W1 rfl ?_ ?_)|refine X1 (W2 rfl ?_ ?_)|refine X2 (W7 rfl ?_ ?_)|refine X3 (W7 rfl ?_ ?_)|refine X4 (W7 rfl ?_ ?_)|refine X5 (W7 rfl ?_ ?_))
     all_goals (try (conv => whnf))
     all_goals (try first|exact obA|refine Ob.mk ?_)
     refine Rnd.mk ⟨i + 1,?_,?_,?_⟩
     ·omega
     ·omega
     ·repeat' ((conv => whnf);first|(with_reducible first|rfl|exact qAH|exact qAG)|exact True.intro|intro _|refine WA ?_ ?_|refine WF ?_|refine W1 rfl ?_ ?_|refine W2 rfl ?_ ?_|refine W3 rfl ?_ ?_|refine W4 ?_ ?_|refine W5 rfl ?_ ?_|refine W6 ?_ ?_|refine WN ?_|refine X1 (W1 rfl ?_ ?_)|refine X1 (W2 rfl ?_ ?_)|refine X2 (W7 rfl ?_ ?_)|refine X3 (W7 rfl ?_ ?_)|refine X4 (W7 rfl ?_ ?_)|refine X5 (W7 rfl ?_ ?_))
      all_goals (try (conv => whnf))
      all_goals (try first|exact obA|refine Ob.mk ?_)
      all_goals (rw [← e];rfl)
    ·rw [qTO s sp i (by omega),hh.1]
  ·have hh := qdT ha ‹_› (by omega)
   have hlen : a.spans.length ≤ s.length + 1 := by omega
   revert hh hlen
   generalize a.spans = sp
   intro hh hlen
   repeat' ((conv => whnf);first|(with_reducible first|rfl|exact qAH|exact qAG)|exact True.intro|intro _|refine WA ?_ ?_|refine WF ?_|refine W1 rfl ?_ ?_|refine W2 rfl ?_ ?_|refine W3 rfl ?_ ?_|refine W4 ?_ ?_|refine W5 rfl ?_ ?_|refine W6 ?_ ?_|refine WN ?_|refine X1 (W1 rfl ?_ ?_)|refine X1 (W2 rfl ?_ ?_)|refine X2 (W7 rfl ?_ ?_)|refine X3 (W7 rfl ?_ ?_)|refine X4 (W7 rfl ?_ ?_)|refine X5 (W7 rfl ?_ ?_))
   all_goals (try (conv => whnf))
   refine LoopStop.mk (α := Nat) (fun i => [(49,.int .i64 i)]) (fun i => [(2,.own .str (fin2 s sp i))]) 3 (fun i => i ≤ sp.length) (fun i => sp.length - i) 0 (by simp) ?_ (fun i hi => ?_)
   ·repeat' ((conv => whnf);first|(with_reducible first|rfl|exact qAH|exact qAG)|exact True.intro|intro _|refine WA ?_ ?_|refine WF ?_|refine W1 rfl ?_ ?_|refine W2 rfl ?_ ?_|refine W3 rfl ?_ ?_|refine W4 ?_ ?_|refine W5 rfl ?_ ?_|refine W6 ?_ ?_|refine WN ?_|refine X1 (W1 rfl ?_ ?_)|refine X1 (W2 rfl ?_ ?_)|refine X2 (W7 rfl ?_ ?_)|refine X3 (W7 rfl ?_ ?_)|refine X4 (W7 rfl ?_ ?_)|refine X5 (W7 rfl ?_ ?_))
    all_goals (try (conv => whnf))
    all_goals (try rfl)
    all_goals trace_state
   ·repeat' ((conv => whnf);first|(with_reducible first|rfl|exact qAH|exact qAG)|exact True.intro|intro _|refine WA ?_ ?_|refine WF ?_|refine W1 rfl ?_ ?_|refine W2 rfl ?_ ?_|refine W3 rfl ?_ ?_|refine W4 ?_ ?_|refine W5 rfl ?_ ?_|refine W6 ?_ ?_|refine WN ?_|refine X1 (W1 rfl ?_ ?_)|refine X1 (W2 rfl ?_ ?_)|refine X2 (W7 rfl ?_ ?_)|refine X3 (W7 rfl ?_ ?_)|refine X4 (W7 rfl ?_ ?_)|refine X5 (W7 rfl ?_ ?_))
    all_goals (try (conv => whnf))
    all_goals (try first|exact obA|refine Ob.mk ?_)
    all_goals (try simp only [ZA,ZB,ZC,ZD,ZE,ZF,ZG,ZH,ZI,ZJ,ZK,ZL,ZM,ZN,ZO,Int.toNat_natCast,UInt8.ofNat_toNat,cast_eq] at *)
    ·exact hh.2 _ (qQV (by omega))
    ·rw [qJV s sp i hi];omega
    ·rw [qJV s sp i hi];omega
    ·skip
     have e := qUK s sp i (by omega)
     repeat' ((conv => whnf);first|(with_reducible first|rfl|exact qAH|exact qAG)|exact True.intro|intro _|refine WA ?_ ?_|refine WF ?_|refine W1 rfl ?_ ?_|refine W2 rfl ?_ ?_|refine W3 rfl ?_ ?_|refine W4 ?_ ?_|refine W5 rfl ?_ ?_|refine W6 ?_ ?_|refine WN ?_|refine X1 (W1 rfl ?_ ?_)|refine X1 (W2 rfl ?_ ?_)|refine X2 (W7 rfl ?_ ?_)|refine X3 (W7 rfl ?_ ?_)|refine X4 (W7 rfl ?_ ?_)|refine X5 (W7 rfl ?_ ?_))
     all_goals (try (conv => whnf))
     all_goals (try first|exact obA|refine Ob.mk ?_)
     refine Rnd.mk ⟨i + 1,?_,?_,?_⟩
     ·omega
     ·omega
     ·repeat' ((conv => whnf);first|(with_reducible first|rfl|exact qAH|exact qAG)|exact True.intro|intro _|refine WA ?_ ?_|refine WF ?_|refine W1 rfl ?_ ?_|refine W2 rfl ?_ ?_|refine W3 rfl ?_ ?_|refine W4 ?_ ?_|refine W5 rfl ?_ ?_|refine W6 ?_ ?_|refine WN ?_|refine X1 (W1 rfl ?_ ?_)|refine X1 (W2 rfl ?_ ?_)|refine X2 (W7 rfl ?_ ?_)|refine X3 (W7 rfl ?_ ?_)|refine X4 (W7 rfl ?_ ?_)|refine X5 (W7 rfl ?_ ?_))
      all_goals (try (conv => whnf))
      all_goals (try first|exact obA|refine Ob.mk ?_)
      all_goals (rw [← e];rfl)
    ·rw [qTO s sp i (by omega),hh.1]
end Go.Vc.W

namespace Go.Vc.W
open Go.Proofs
set_option maxRecDepth 10000
instance f33 (s : List UInt8) : Fn BB 102 [.str s] (s.length ≤ 100000) (.rd .str (spl s)) := by
 refine Fn.intro (N := 5) [0,2] [] Tryz.call102 Tryz.func102 rfl rfl (by kernel_rfl) (fun hpre => ?_)
 all_goals exact vcA
instance f30 (s t : List UInt8) : Fn BB 137 [.str s,.str t] (s.length ≤ 4294967280) (.int .i64 (Lib.index s t)) := by
 refine Fn.lift Tryz.call137 fun hp r β w vs hG m hl => ?_
 obtain ⟨rfl,h1,h2⟩ := hl.str2
 obtain ⟨c,T,fr,mm,e1,e2⟩ := hG
 have e3 := m.vis 0 _ e1
 exact ⟨_,Tryz.strings_Index ⟨s.toArray⟩ ⟨t.toArray⟩ mm w (by show s.toArray.size < _;simp;omega) (by simp [World.cell?,e3,e2]),.int⟩
end Go.Vc.W

namespace Go.Vc.W
open Go.Proofs
set_option maxRecDepth 10000
def ql3 (s w : List UInt8) (j : Nat) : Prop := Lib.occAt s w j = true ∧ (j = 0 ∨ isSp (s.getD (j-1) 0).toNat = true) ∧ (j + w.length = s.length ∨ isSp (s.getD (j + w.length) 0).toNat = true)
def NoB (s w : List UInt8) (a : Nat) : Prop := ∀ j,j < a → ¬ ql3 s w j
theorem qZN (s : List UInt8) (j i : Nat) (h : j ≤ i) (h2 : i ≤ s.length) : Lib.occAt s (cut s (j,i)) j = true := by
 unfold Lib.occAt cut
 rw [List.isPrefixOf_iff_prefix]
 simp only [Int.toNat_natCast]
 rw [List.drop_take]
 exact List.take_prefix _ _
theorem qXX (s : List UInt8) (j i : Nat) (h : j ≤ i) (h2 : i ≤ s.length) : (cut s (j,i)).length = i - j := by
 simp [cut];omega
theorem qUT (s : List UInt8) (i : Nat) (h : i ≤ s.length) :
  (∀ x ∈ (qGF s i).1,¬ x = [] ∧ ∃ j,ql3 s x j) ∧ ∃ j,j ≤ i ∧ (qGF s i).2 = cut s ((j:Nat),(i:Nat)) ∧ (j = 0 ∨ isSp (s.getD (j-1) 0).toNat = true) := by
 induction i with
 | zero => exact ⟨by simp [qGF],0,by simp,by simp [qGF,cut],Or.inl rfl⟩
 | succ i ih =>
  obtain ⟨ih1,j,hj,e,hb⟩ := ih (by omega)
  have es := qCU s i (by omega)
  cases hc : isSp (s.getD i 0).toNat with
  | false =>
   rw [qKQ hc] at es
   rw [es]
   exact ⟨ih1,j,by omega,by rw [qJS s j i hj (by omega), ← e],hb⟩
  | true =>
   by_cases h2 : (qGF s i).2 = []
   ·rw [qKT hc h2] at es
    rw [es]
    exact ⟨ih1,i + 1,by omega,by simp [cut],Or.inr (by simpa using hc)⟩
   ·rw [qIC hc h2] at es
    rw [es]
    refine ⟨fun x hx => ?_,i + 1,by omega,by simp [cut],Or.inr (by simpa using hc)⟩
    rcases List.mem_append.mp hx with hx | hx
    ·exact ih1 x hx
    ·simp only [List.mem_singleton] at hx
     subst hx
     refine ⟨h2,j,?_⟩
     rw [e]
     refine ⟨qZN s j i hj (by omega),hb,Or.inr ?_⟩
     rw [qXX s j i hj (by omega)]
     have : j + (i - j) = i := by omega
     rw [this];exact hc
theorem qO6 (s x : List UInt8) (h : (spl s).contains x = true) : ¬ x = [] ∧ ∃ j,ql3 s x j := by
 have hx : x ∈ spl s := by simpa using h
 obtain ⟨h1,j,hj,e,hb⟩ := qUT s s.length (Nat.le_refl _)
 by_cases h2 : (qGF s s.length).2 = []
 ·rw [qdY (Nat.le_refl _) h2] at hx;exact h1 x hx
 ·rw [qeS (Nat.le_refl _) h2] at hx
  rcases List.mem_append.mp hx with hx | hx
  ·exact h1 x hx
  ·simp only [List.mem_singleton] at hx
   subst hx
   refine ⟨h2,j,?_⟩
   rw [e]
   refine ⟨qZN s j _ hj (Nat.le_refl _),hb,Or.inl ?_⟩
   rw [qXX s j _ hj (Nat.le_refl _)];omega
theorem qWJ (s x : List UInt8) (h : x = []) : (spl s).contains x = false := by
 cases e : (spl s).contains x with
 | false => rfl
 | true => exact absurd h (qO6 s x e).1
theorem qdL (s x : List UInt8) (n : Nat) (hn : s.length ≤ n) (h0 : ¬ x = []) (h : NoB s x n) : (spl s).contains x = false := by
 cases e : (spl s).contains x with
 | false => rfl
 | true =>
  obtain ⟨j,hj⟩ := (qO6 s x e).2
  rcases Lib.occAt_room hj.1 with k | k
  ·have : 0 < x.length := List.length_pos_iff.mpr h0
   exact absurd hj (h j (by omega))
  ·exact absurd k h0
theorem least (f : Nat → Bool) (n : Nat) (h : f n = true) : ∃ m,f m = true ∧ ∀ j,j < m → f j = false := by
 induction n using Nat.strongRecOn with
 | _ n ih =>
  by_cases hh : ∃ j,j < n ∧ f j = true
  ·obtain ⟨j,h1,h2⟩ := hh
   exact ih j h1 h2
  ·refine ⟨n,h,fun j hj => ?_⟩
   cases e : f j with
   | false => rfl
   | true => exact absurd ⟨j,hj,e⟩ hh
theorem ixs (s w : List UInt8) (i : Nat) (hi : i ≤ s.length) (h0 : ¬ w = []) :
  (Lib.index (s.drop i) w = -1 ∧ ∀ j,i ≤ j → Lib.occAt s w j = false) ∨
  ∃ p : Nat,Lib.index (s.drop i) w = p ∧ i + p + w.length ≤ s.length ∧ Lib.occAt s w (i + p) = true ∧ ∀ j,i ≤ j → j < i + p → Lib.occAt s w j = false := by
 have sh : ∀ q,Lib.occAt (s.drop i) w q = Lib.occAt s w (i + q) := fun q => by simp [Lib.occAt,List.drop_drop]
 by_cases hh : ∃ q,Lib.occAt (s.drop i) w q = true
 ·right
  obtain ⟨q,hq⟩ := hh
  obtain ⟨p,hd,hm⟩ := least _ q hq
  refine ⟨p,?_⟩
  have hr : i + p + w.length ≤ s.length := by
   rcases Lib.occAt_room hd with k | k
   ·have : 0 < w.length := List.length_pos_iff.mpr h0
    simp at k;omega
   ·exact absurd k h0
  refine ⟨Lib.index_first (by simp;omega) hd hm,hr,by rw [← sh];exact hd,fun j h1 h2 => ?_⟩
  have := hm (j - i) (by omega)
  rw [sh] at this
  have e : i + (j - i) = j := by omega
  rwa [e] at this
 ·left
  have hm : ∀ q,Lib.occAt (s.drop i) w q = false := fun q => by
   cases e : Lib.occAt (s.drop i) w q with
   | false => rfl
   | true => exact absurd ⟨q,e⟩ hh
  refine ⟨Lib.index_none fun j _ => hm j,fun j h1 => ?_⟩
  have := hm (j - i)
  rw [sh] at this
  have e : i + (j - i) = j := by omega
  rwa [e] at this
end Go.Vc.W

namespace Go.Vc.W
open Go.Proofs
set_option maxRecDepth 10000
theorem qZ0 (l : List (List UInt8)) (w : List UInt8) : decide (qMD l w ≥ 0) = l.contains w := by
 unfold qMD
 cases h : l.contains w <;> simp
theorem qbN {s w : List UInt8} {i p : Nat} (h : NoB s w i) (hp : ∀ j,i ≤ j → j < i + p → Lib.occAt s w j = false) (hb : ¬ ql3 s w (i + p)) : NoB s w (i + p + 1) := by
 intro j hj
 by_cases h1 : j < i
 ·exact h j h1
 ·by_cases h2 : j < i + p
  ·intro e;have := hp j (by omega) h2;rw [e.1] at this;cases this
  ·have : j = i + p := by omega
   subst this;exact hb
theorem qdA {s w : List UInt8} {i : Nat} (h : NoB s w i) (hp : ∀ j,i ≤ j → Lib.occAt s w j = false) (n : Nat) : NoB s w n := by
 intro j hj
 by_cases h1 : j < i
 ·exact h j h1
 ·intro e;have := hp j (by omega);rw [e.1] at this;cases this
instance f26 (s w : List UInt8) : Fn BB 84 [.str s,.str w] (s.length ≤ 100000 ∧ w.length ≤ 100000) (.bool ((spl s).contains w)) := by
  refine Fn.intro (N := 52) [0,1,4,5,6,7,8,10,17,45] [] Tryz.call84 Tryz.func84 rfl rfl (by kernel_rfl) (fun hpre => ?_)
  repeat' ((conv => whnf);first|(with_reducible first|rfl|exact qAH|exact qAG)|exact True.intro|intro _|refine WA ?_ ?_|refine WF ?_|refine W1 rfl ?_ ?_|refine W2 rfl ?_ ?_|refine W3 rfl ?_ ?_|refine W4 ?_ ?_|refine W5 rfl ?_ ?_|refine W6 ?_ ?_|refine WN ?_|refine X1 (W1 rfl ?_ ?_)|refine X1 (W2 rfl ?_ ?_)|refine X2 (W7 rfl ?_ ?_)|refine X3 (W7 rfl ?_ ?_)|refine X4 (W7 rfl ?_ ?_)|refine X5 (W7 rfl ?_ ?_))
  all_goals (try (conv => whnf))
  all_goals (try first|exact obA|refine Ob.mk ?_)
  · rw [qWJ s w (by simpa using ‹(w == []) = true›)]
  · have h0 : ¬ w = [] := by simpa using ‹(w == []) = false›
    refine LoopStop.mk (α := Nat) (fun i => [(5,.int .i64 i)]) (fun i => []) 0 (fun i => i ≤ s.length ∧ NoB s w i) (fun i => s.length + 1 - i) 0 ⟨by omega,fun j hj => absurd hj (by omega)⟩ ?_ (fun i hi => ?_)
    · repeat' ((conv => whnf);first|(with_reducible first|rfl|exact qAH|exact qAG)|exact True.intro|intro _|refine WA ?_ ?_|refine WF ?_|refine W1 rfl ?_ ?_|refine W2 rfl ?_ ?_|refine W3 rfl ?_ ?_|refine W4 ?_ ?_|refine W5 rfl ?_ ?_|refine W6 ?_ ?_|refine WN ?_|refine X1 (W1 rfl ?_ ?_)|refine X1 (W2 rfl ?_ ?_)|refine X2 (W7 rfl ?_ ?_)|refine X3 (W7 rfl ?_ ?_)|refine X4 (W7 rfl ?_ ?_)|refine X5 (W7 rfl ?_ ?_))
      all_goals (try (conv => whnf))
      all_goals (try rfl)
    · have hx := ixs s w i hi.1 h0
      have hl0 : 0 < w.length := List.length_pos_iff.mpr h0
      repeat' ((conv => whnf);first|(with_reducible first|rfl|exact qAH|exact qAG)|exact True.intro|intro _|refine WA ?_ ?_|refine WF ?_|refine W1 rfl ?_ ?_|refine W2 rfl ?_ ?_|refine W3 rfl ?_ ?_|refine W4 ?_ ?_|refine W5 rfl ?_ ?_|refine W6 ?_ ?_|refine WN ?_|refine X1 (W1 rfl ?_ ?_)|refine X1 (W2 rfl ?_ ?_)|refine X2 (W7 rfl ?_ ?_)|refine X3 (W7 rfl ?_ ?_)|refine X4 (W7 rfl ?_ ?_)|refine X5 (W7 rfl ?_ ?_))
      all_goals (try (conv => whnf))
      all_goals (try simp only [ZA,ZB,ZC,ZD,ZE,ZF,ZG,ZH,ZI,ZJ,ZK,ZL,ZM,ZN,ZO,Int.toNat_natCast,UInt8.ofNat_toNat,cast_eq] at *)
      all_goals (rcases hx with ⟨hx,hx2⟩ | ⟨p,hx,hx1,hx2,hx3⟩)
      all_goals (try (exfalso;omega))
      all_goals (try first|exact obA|refine Ob.mk ?_)
      · rw [qdL s w s.length (Nat.le_refl _) h0 (qdA hi.2 hx2 _)]
      · rw [qZ0]
      · have hb : ¬ ql3 s w (i + p) := by
          rintro ⟨b1,b2,b3⟩
          have e1 : ((i:Int) + (p:Int) - 1).toNat = i + p - 1 := by omega
          have e2 : ((i:Int) + (p:Int) + (w.length:Int)).toNat = i + p + w.length := by omega
          rename_i hc _ _
          rw [hx,e1,e2] at hc
          simp only [Bool.and_eq_false_iff,Bool.or_eq_false_iff,beq_eq_false_iff_ne] at hc
          rcases hc with ⟨c1,c2⟩ | ⟨c1,c2⟩
          · rcases b2 with b2 | b2
            · omega
            · rw [b2] at c2;cases c2
          · rcases b3 with b3 | b3
            · omega
            · rw [b3] at c2;cases c2
        refine Rnd.mk ⟨i + p + 1,?_,?_,?_⟩
        · exact ⟨by omega,qbN hi.2 hx3 hb⟩
        · omega
        · all_goals exact vcA
end Go.Vc.W

namespace Go.Vc.W
open Go.Proofs
set_option maxRecDepth 10000
def qa6 : List UInt8 := [100,101,115,99,32,102,111,114,101,105,103,110,79,98,106,101,99,116,32,116,105,116,108,101]
def qwA : List UInt8 := [97,110,110,111,116,97,116,105,111,110,45,120,109,108,32,109,105,32,109,110,32,109,111,32,109,115,32,109,116,101,120,116]
def qaU : List UInt8 := [97,100,100,114,101,115,115,32,97,112,112,108,101,116,32,97,114,101,97,32,97,114,116,105,99,108,101,32,97,115,105,100,101,32,98,97,115,101,32,98,97,115,101,102,111,110,116,32,98,103,115,111,117,110,100,32,98,108,111,99,107,113,117,111,116,101,32,98,111,100,121,32,98,114,32,98,117,116,116,111,110,32,99,97,112,116,105,111,110,32,99,101,110,116,101,114,32,99,111,108,32,99,111,108,103,114,111,117,112,32,100,100,32,100,101,116,97,105,108,115,32,100,105,114,32,100,105,118,32,100,108,32,100,116,32,101,109,98,101,100,32,102,105,101,108,100,115,101,116,32,102,105,103,99,97,112,116,105,111,110,32,102,105,103,117,114,101,32,102,111,111,116,101,114,32,102,111,114,109,32,102,114,97,109,101,32,102,114,97,109,101,115,101,116,32,104,49,32,104,50,32,104,51,32,104,52,32,104,53,32,104,54,32,104,101,97,100,32,104,101,97,100,101,114,32,104,103,114,111,117,112,32,104,114,32,104,116,109,108,32,105,102,114,97,109,101,32,105,109,103,32,105,110,112,117,116,32,107,101,121,103,101,110,32,108,105,32,108,105,110,107,32,108,105,115,116,105,110,103,32,109,97,105,110,32,109,97,114,113,117,101,101,32,109,101,110,117,32,109,101,116,97,32,110,97,118,32,110,111,101,109,98,101,100,32,110,111,102,114,97,109,101,115,32,110,111,115,99,114,105,112,116,32,111,98,106,101,99,116,32,111,108,32,111,112,116,103,114,111,117,112,32,111,112,116,105,111,110,32,112,32,112,97,114,97,109,32,112,108,97,105,110,116,101,120,116,32,112,114,101,32,115,99,114,105,112,116,32,115,101,97,114,99,104,32,115,101,99,116,105,111,110,32,115,101,108,101,99,116,32,115,111,117,114,99,101,32,115,116,121,108,101,32,115,117,109,109,97,114,121,32,116,97,98,108,101,32,116,98,111,100,121,32,116,100,32,116,101,109,112,108,97,116,101,32,116,101,120,116,97,114,101,97,32,116,102,111,111,116,32,116,104,32,116,104,101,97,100,32,116,105,116,108,101,32,116,114,32,116,114,97,99,107,32,117,108,32,119,98,114,32,120,109,112]
def qeY : List UInt8 := [97,32,98,32,98,105,103,32,99,111,100,101,32,101,109,32,102,111,110,116,32,105,32,110,111,98,114,32,115,32,115,109,97,108,108,32,115,116,114,105,107,101,32,115,116,114,111,110,103,32,116,116,32,117]
def qtX : List UInt8 := [104,49,32,104,50,32,104,51,32,104,52,32,104,53,32,104,54]
def cImpl : List UInt8 := [100,100,32,100,116,32,108,105,32,111,112,116,103,114,111,117,112,32,111,112,116,105,111,110,32,112,32,114,98,32,114,112,32,114,116,32,114,116,99]
def qh9 : List UInt8 := [97,112,112,108,101,116,32,99,97,112,116,105,111,110,32,104,116,109,108,32,109,97,114,113,117,101,101,32,111,98,106,101,99,116,32,116,97,98,108,101,32,116,100,32,116,101,109,112,108,97,116,101,32,116,104]
def qjT : List UInt8 := [111,108,32,117,108]
def qXE : List UInt8 := [98,117,116,116,111,110]
def qcH : List UInt8 := [104,116,109,108,32,116,97,98,108,101,32,116,101,109,112,108,97,116,101]
def qxT : List UInt8 := [111,112,116,103,114,111,117,112,32,111,112,116,105,111,110]
def qhD : List UInt8 := [97,100,100,114,101,115,115,32,97,114,116,105,99,108,101,32,97,115,105,100,101,32,98,108,111,99,107,113,117,111,116,101,32,99,101,110,116,101,114,32,100,101,116,97,105,108,115,32,100,105,97,108,111,103,32,100,105,114,32,100,105,118,32,100,108,32,102,105,101,108,100,115,101,116,32,102,105,103,99,97,112,116,105,111,110,32,102,105,103,117,114,101,32,102,111,111,116,101,114,32,104,101,97,100,101,114,32,104,103,114,111,117,112,32,108,105,115,116,105,110,103,32,109,97,105,110,32,109,101,110,117,32,110,97,118,32,111,108,32,112,32,112,114,101,32,115,101,97,114,99,104,32,115,101,99,116,105,111,110,32,115,117,109,109,97,114,121,32,117,108]
def cRc : List UInt8 := [116,101,120,116,97,114,101,97,32,116,105,116,108,101]
def qxK : List UInt8 := [105,102,114,97,109,101,32,110,111,101,109,98,101,100,32,110,111,102,114,97,109,101,115,32,115,116,121,108,101,32,120,109,112]
def qW2 : List UInt8 := [115,99,114,105,112,116]
def qb4 : List UInt8 := [112,108,97,105,110,116,101,120,116]
def has (c nm : List UInt8) : Bool := (spl c).contains nm
def qNT (sp : Int) (nm : List UInt8) : Bool := (sp == 2 && has qwA nm) || (sp == 1 && has qa6 nm)
def kHtml (sp : Int) (nm c : List UInt8) : Bool := sp == 0 && has c nm
def qZZ (sp : Int) (nm : List UInt8) : Bool := qNT sp nm || kHtml sp nm qaU
def kStops (sc sp : Int) (nm : List UInt8) : Bool :=
 let few := qNT sp nm || kHtml sp nm qh9
 if sc = 0 then few else if sc = 1 then few || kHtml sp nm qjT else if sc = 2 then few || kHtml sp nm qXE
 else if sc = 3 then kHtml sp nm qcH else !(sc == 4) || !kHtml sp nm qxT
def qb7 (nm : List UInt8) : Int := if has cRc nm then 1 else if has qxK nm then 2 else if nm = qW2 then 3 else if nm = qb4 then 4 else 0
instance f28 (sp : Int) (nm c : List UInt8) : Fn BB 171 [.int .i64 sp,.str nm,.str c] (nm.length ≤ 60 ∧ c.length ≤ 100000) (.bool (kHtml sp nm c)) := by
 refine Fn.intro (N := 14) [0,1,2,6] [] Tryz.call171 Tryz.func171 rfl rfl (by kernel_rfl) (fun hpre => ?_)
 all_goals exact vcA
instance f27 (sp : Int) (nm : List UInt8) : Fn BB 313 [.int .i64 sp,.str nm] (nm.length ≤ 60) (.bool (qNT sp nm)) := by
 refine Fn.intro (N := 19) [0,1,4] [] Tryz.call313 Tryz.func313 rfl rfl (by kernel_rfl) (fun hpre => ?_)
 all_goals exact vcA
end Go.Vc.W

namespace Go.Vc.W
open Go.Proofs
set_option maxRecDepth 10000
instance f7 (sp : Int) (nm : List UInt8) : Fn BB 252 [.int .i64 sp,.str nm] (nm.length ≤ 60) (.bool (qZZ sp nm)) := by
 refine Fn.intro (N := 13) [0,1,4] [] Tryz.call252 Tryz.func252 rfl rfl (by kernel_rfl) (fun hpre => ?_)
 all_goals exact vcA
instance f9 (sp : Int) (nm : List UInt8) : Fn BB 229 [.int .i64 sp,.str nm] (nm.length ≤ 60) (.bool (kHtml sp nm qeY)) := by
 refine Fn.intro (N := 8) [0,1,4] [] Tryz.call229 Tryz.func229 rfl rfl (by kernel_rfl) (fun hpre => ?_)
 all_goals exact vcA
instance f13 (sp : Int) (nm : List UInt8) : Fn BB 195 [.int .i64 sp,.str nm] (nm.length ≤ 60) (.bool (kHtml sp nm qtX)) := by
 refine Fn.intro (N := 8) [0,1,4] [] Tryz.call195 Tryz.func195 rfl rfl (by kernel_rfl) (fun hpre => ?_)
 all_goals exact vcA
instance f15 (sp : Int) (nm : List UInt8) : Fn BB 351 [.int .i64 sp,.str nm] (nm.length ≤ 60) (.bool (kHtml sp nm cImpl)) := by
 refine Fn.intro (N := 8) [0,1,4] [] Tryz.call351 Tryz.func351 rfl rfl (by kernel_rfl) (fun hpre => ?_)
 all_goals exact vcA
instance f17 (nm : List UInt8) : Fn BB 196 [.str nm] (nm.length ≤ 60) (.bool (has qhD nm)) := by
 refine Fn.intro (N := 5) [0,2] [] Tryz.call196 Tryz.func196 rfl rfl (by kernel_rfl) (fun hpre => ?_)
 all_goals exact vcA
instance f25 (nm : List UInt8) : Fn BB 153 [.str nm] (nm.length ≤ 60) (.int .i64 (qb7 nm)) := by
 refine Fn.intro (N := 11) [0,2,4,6,8,10] [] Tryz.call153 Tryz.func153 rfl rfl (by kernel_rfl) (fun hpre => ?_)
 repeat' ((conv => whnf);first|(with_reducible first|rfl|exact qAH|exact qAG)|exact True.intro|intro _|refine WA ?_ ?_|refine WF ?_|refine W1 rfl ?_ ?_|refine W2 rfl ?_ ?_|refine W3 rfl ?_ ?_|refine W4 ?_ ?_|refine W5 rfl ?_ ?_|refine W6 ?_ ?_|refine WN ?_|refine X1 (W1 rfl ?_ ?_)|refine X1 (W2 rfl ?_ ?_)|refine X2 (W7 rfl ?_ ?_)|refine X3 (W7 rfl ?_ ?_)|refine X4 (W7 rfl ?_ ?_)|refine X5 (W7 rfl ?_ ?_))
 all_goals (try (conv => whnf))
 all_goals (try first|exact obA|refine Ob.mk ?_)
 all_goals (unfold qb7 has cRc qxK;simp_all [qW2,qb4];done)
instance f21 (sc : Int) (sp : Int) (nm : List UInt8) : Fn BB 250 [.int .i64 sc,.int .i64 sp,.str nm] (nm.length ≤ 60) (.bool (kStops sc sp nm)) := by
 refine Fn.intro (N := 48) [0,1,2,6,7,17,20,28,36] [] Tryz.call250 Tryz.func250 rfl rfl (by kernel_rfl) (fun hpre => ?_)
 repeat' ((conv => whnf);first|(with_reducible first|rfl|exact qAH|exact qAG)|exact True.intro|intro _|refine WA ?_ ?_|refine WF ?_|refine W1 rfl ?_ ?_|refine W2 rfl ?_ ?_|refine W3 rfl ?_ ?_|refine W4 ?_ ?_|refine W5 rfl ?_ ?_|refine W6 ?_ ?_|refine WN ?_|refine X1 (W1 rfl ?_ ?_)|refine X1 (W2 rfl ?_ ?_)|refine X2 (W7 rfl ?_ ?_)|refine X3 (W7 rfl ?_ ?_)|refine X4 (W7 rfl ?_ ?_)|refine X5 (W7 rfl ?_ ?_))
 all_goals (try (conv => whnf))
 all_goals (try first|exact obA|refine Ob.mk ?_)
 all_goals (unfold kStops qh9 qjT qXE qcH qxT;simp_all [bne,Bool.beq_eq_decide_eq];done)
end Go.Vc.W

namespace Go.Vc
open Go.Proofs
set_option maxRecDepth 10000
def qfN : qAE := ((1 : Int),(0 : Int),([] : List UInt8),([] : List qAD),([] : List UInt8),(0 : Int),([] : List Int))
def qET (l : List qAE) (i : Int) : qAE := bif isT l i then l.getD i.toNat qAC.dflt else qfN
theorem qTC {l : List qAE} {i : Int} (h : isT l i = true) : qET l i = l.getD i.toNat qAC.dflt := by rw [qET,h];rfl
theorem qPV {l : List qAE} {i : Int} (h : isT l i = false) : qET l i = qfN := by rw [qET,h];rfl
instance s103 (l : List qAE) (i : Int) : Fn BB 314 [.agg [.rd qAC l],.int .i64 i] True (.agg (qAC.enc (qET l i))) := by
 cases h : isT l i with
 | true =>
  rw [qTC h]
  refine Fn.intro (N := 20) [0,1,2,4,13] [] Tryz.call314 Tryz.func314 rfl rfl (by kernel_rfl) (fun hpre => ?_)
  repeat' ((conv => whnf);first|(with_reducible first|rfl|exact qAH|exact qAG)|exact True.intro|intro _|refine WA ?_ ?_|refine WF ?_|refine W1 rfl ?_ ?_|refine W2 rfl ?_ ?_|refine W3 rfl ?_ ?_|refine W4 ?_ ?_|refine W5 rfl ?_ ?_|refine W6 ?_ ?_|refine WN ?_|refine X1 (W1 rfl ?_ ?_)|refine X1 (W2 rfl ?_ ?_)|refine X2 (W7 rfl ?_ ?_)|refine X3 (W7 rfl ?_ ?_)|refine X4 (W7 rfl ?_ ?_)|refine X5 (W7 rfl ?_ ?_))
  all_goals (try (conv => whnf))
  all_goals (try first|exact obA|refine Ob.mk ?_)
  all_goals (try (first | (exact rfl) | (rename_i hx;exact qAG hx) | (rename_i hx;exact qAH hx)))
  all_goals (first | (simp_all [isT];done) | (exfalso;simp_all [isT];omega))
 | false =>
  rw [qPV h]
  refine Fn.intro (N := 20) [0,1,2,4,13] [] Tryz.call314 Tryz.func314 rfl rfl (by kernel_rfl) (fun hpre => ?_)
  repeat' ((conv => whnf);first|(with_reducible first|rfl|exact qAH|exact qAG)|exact True.intro|intro _|refine WA ?_ ?_|refine WF ?_|refine W1 rfl ?_ ?_|refine W2 rfl ?_ ?_|refine W3 rfl ?_ ?_|refine W4 ?_ ?_|refine W5 rfl ?_ ?_|refine W6 ?_ ?_|refine WN ?_|refine X1 (W1 rfl ?_ ?_)|refine X1 (W2 rfl ?_ ?_)|refine X2 (W7 rfl ?_ ?_)|refine X3 (W7 rfl ?_ ?_)|refine X4 (W7 rfl ?_ ?_)|refine X5 (W7 rfl ?_ ?_))
  all_goals (try (conv => whnf))
  all_goals (try first|exact obA|refine Ob.mk ?_)
  all_goals (try (first | (exact rfl) | (rename_i hx;exact qAG hx) | (rename_i hx;exact qAH hx)))
  all_goals (exfalso;rename_i hx;simp only [isT] at h;(try simp only [ZA,ZB,ZC,ZD,ZE,ZF,ZG,ZH,ZI,ZJ,ZK,ZL,ZM,ZN,ZO,Bool.and_eq_false_iff,Bool.or_eq_false_iff,ge_iff_le,gt_iff_lt,Int.toNat_natCast,UInt8.ofNat_toNat,cast_eq] at *);omega)
def qXL (l : List qAE) : Prop := ∀ i : Int,(qET l i).2.2.1.length ≤ 60
def isE (l : List qAE) (i : Int) (nm : List UInt8) : Bool := isT l i && ((qET l i).1 == 1 && ((qET l i).2.1 == 0 && (W.spl nm).contains (qET l i).2.2.1))
instance s49 (l : List qAE) (i : Int) (nm : List UInt8) : Fn BB 258 [.agg [.rd qAC l],.int .i64 i,.str nm] (nm.length ≤ 100000) (.bool (isE l i nm)) := by
 refine Fn.intro (N := 36) [0,1,2,3,6,7] [] Tryz.call258 Tryz.func258 rfl rfl (by kernel_rfl) (fun hpre => ?_)
 repeat' ((conv => whnf);first|(with_reducible first|rfl|exact qAH|exact qAG)|exact True.intro|intro _|refine WA ?_ ?_|refine WF ?_|refine W1 rfl ?_ ?_|refine W2 rfl ?_ ?_|refine W3 rfl ?_ ?_|refine W4 ?_ ?_|refine W5 rfl ?_ ?_|refine W6 ?_ ?_|refine WN ?_|refine X1 (W1 rfl ?_ ?_)|refine X1 (W2 rfl ?_ ?_)|refine X2 (W7 rfl ?_ ?_)|refine X3 (W7 rfl ?_ ?_)|refine X4 (W7 rfl ?_ ?_)|refine X5 (W7 rfl ?_ ?_))
 all_goals (try (conv => whnf))
 all_goals (try first|exact obA|refine Ob.mk ?_)
 all_goals (simp only [isE,isT,ge_iff_le,Bool.and_assoc])
end Go.Vc

namespace Go.Vc
open Go.Proofs
set_option maxRecDepth 10000
def qw5 (l : List Int) : Int := bif decide (l.length = 0) then -1 else l.getD (l.length - 1) 0
instance s47 (l : List Int) : Fn BB 183 [.rd qAI l] True (.int .i64 (qw5 l)) := by
  refine Fn.intro (N := 12) [0,2,5] [] Tryz.call183 Tryz.func183 rfl rfl (by kernel_rfl) (fun hpre => ?_)
  repeat' ((conv => whnf);first|(with_reducible first|rfl|exact qAH|exact qAG)|exact True.intro|intro _|refine WA ?_ ?_|refine WF ?_|refine W1 rfl ?_ ?_|refine W2 rfl ?_ ?_|refine W3 rfl ?_ ?_|refine W4 ?_ ?_|refine W5 rfl ?_ ?_|refine W6 ?_ ?_|refine WN ?_|refine X1 (W1 rfl ?_ ?_)|refine X1 (W2 rfl ?_ ?_)|refine X2 (W7 rfl ?_ ?_)|refine X3 (W7 rfl ?_ ?_)|refine X4 (W7 rfl ?_ ?_)|refine X5 (W7 rfl ?_ ?_))
  all_goals (try (conv => whnf))
  all_goals (try first|exact obA|refine Ob.mk ?_)
  · rename_i h
    have : l.length = 0 := by simpa using h
    rw [qw5,decide_eq_true this];rfl
  · have : ¬ l.length = 0 := by
      have h : (((l.length : Nat) : Int) == 0) = false := ‹_›
      simpa using h
    rw [qw5,decide_eq_false this,cond_false];congr 1;omega
def qk2 (p q : Int → Bool) (l : List Int) : Nat → Bool
 | 0 => false
 | k + 1 => bif p (l.getD k 0) then true else bif q (l.getD k 0) then false else qk2 p q l k
def qVO (t : List qAE) (sc : Int) (x : Int) : Bool := W.kStops sc (qET t x).2.1 (qET t x).2.2.1
def qh0 (t : List qAE) (l : List Int) (nm : List UInt8) (sc : Int) : Bool := qk2 (fun x => isE t x nm) (qVO t sc) l l.length
instance s51 (t : List qAE) (l : List Int) (nm : List UInt8) (sc : Int) : Fn BB 303 [.agg [.rd qAC t],.rd qAI l,.str nm,.int .i64 sc] (qXL t ∧ nm.length ≤ 100000) (.bool (qh0 t l nm sc)) := by
 refine Fn.intro (N := 37) [0,1,2,3,4,8,9,10,15,24,36] [(4,[1,0,0,1,1,0,3]),(6,[0,0,0,0,0,6,6,6])] Tryz.call303 Tryz.func303 rfl rfl (by kernel_rfl) (fun hpre => ?_)
 repeat' ((conv => whnf);first|(with_reducible first|rfl|exact qAH|exact qAG)|exact True.intro|intro _|refine WA ?_ ?_|refine WF ?_|refine W1 rfl ?_ ?_|refine W2 rfl ?_ ?_|refine W3 rfl ?_ ?_|refine W4 ?_ ?_|refine W5 rfl ?_ ?_|refine W6 ?_ ?_|refine WN ?_|refine X1 (W1 rfl ?_ ?_)|refine X1 (W2 rfl ?_ ?_)|refine X2 (W7 rfl ?_ ?_)|refine X3 (W7 rfl ?_ ?_)|refine X4 (W7 rfl ?_ ?_)|refine X5 (W7 rfl ?_ ?_))
 all_goals (try (conv => whnf))
 all_goals (try first|exact obA|refine Ob.mk ?_)
 refine LoopStop.mk (α := Nat) (fun i => [(9,.int .i64 ((l.length : Int) - 1 - i))]) (fun _ => []) 20 (fun i => i ≤ l.length ∧ qh0 t l nm sc = qk2 (fun x => isE t x nm) (qVO t sc) l (l.length - i)) (fun i => l.length - i) 0 (by simp [qh0]) ?_ (fun i hC => ?_)
 ·repeat' ((conv => whnf);first|(with_reducible first|rfl|exact qAH|exact qAG)|exact True.intro|intro _|refine WA ?_ ?_|refine WF ?_|refine W1 rfl ?_ ?_|refine W2 rfl ?_ ?_|refine W3 rfl ?_ ?_|refine W4 ?_ ?_|refine W5 rfl ?_ ?_|refine W6 ?_ ?_|refine WN ?_|refine X1 (W1 rfl ?_ ?_)|refine X1 (W2 rfl ?_ ?_)|refine X2 (W7 rfl ?_ ?_)|refine X3 (W7 rfl ?_ ?_)|refine X4 (W7 rfl ?_ ?_)|refine X5 (W7 rfl ?_ ?_))
  all_goals (try (conv => whnf))
  all_goals (try first|exact obA|refine Ob.mk ?_)
  all_goals (try omega)
 ·obtain ⟨hi,hC⟩ := hC
  have hs := hpre.1 (l.getD ((l.length : Int) - 1 - i).toNat qAI.dflt)
  have step : i < l.length → qh0 t l nm sc = bif isE t (l.getD ((l.length : Int) - 1 - i).toNat qAI.dflt) nm then true else bif qVO t sc (l.getD ((l.length : Int) - 1 - i).toNat qAI.dflt) then false else qk2 (fun x => isE t x nm) (qVO t sc) l (l.length - (i + 1)) := by
   intro hlt
   obtain ⟨k,hk⟩ : ∃ k,l.length - i = k + 1 := ⟨l.length - i - 1,by omega⟩
   rw [hC,hk,qk2,show ((l.length : Int) - 1 - i).toNat = k by omega,show l.length - (i + 1) = k by omega];rfl
  repeat' ((conv => whnf);first|(with_reducible first|rfl|exact qAH|exact qAG)|exact True.intro|intro _|refine WA ?_ ?_|refine WF ?_|refine W1 rfl ?_ ?_|refine W2 rfl ?_ ?_|refine W3 rfl ?_ ?_|refine W4 ?_ ?_|refine W5 rfl ?_ ?_|refine W6 ?_ ?_|refine WN ?_|refine X1 (W1 rfl ?_ ?_)|refine X1 (W2 rfl ?_ ?_)|refine X2 (W7 rfl ?_ ?_)|refine X3 (W7 rfl ?_ ?_)|refine X4 (W7 rfl ?_ ?_)|refine X5 (W7 rfl ?_ ?_))
  all_goals (try (conv => whnf))
  all_goals (try first|exact obA|refine Ob.mk ?_)
  ·rename_i hp h
   have hp : i < l.length := by have := of_decide_eq_true hp;omega
   rw [step hp,h];rfl
  ·rename_i hp h1 h2
   have hp : i < l.length := by have := of_decide_eq_true hp;omega
   have h2 : qVO t sc (l.getD ((l.length : Int) - 1 - i).toNat qAI.dflt) = true := h2
   rw [step hp,h1,h2];rfl
  ·rename_i hp h1 h2
   have hp : i < l.length := by have := of_decide_eq_true hp;omega
   have h2 : qVO t sc (l.getD ((l.length : Int) - 1 - i).toNat qAI.dflt) = false := h2
   have := step hp
   rw [h1,h2,cond_false,cond_false] at this
   refine Rnd.mk ⟨i + 1,⟨hp,this⟩,by omega,?_,?_,?_⟩
   all_goals exact vcA
  ·rename_i hp
   have hp : i = l.length := by have := of_decide_eq_false hp;omega
   rw [hC,hp,Nat.sub_self];rfl
end Go.Vc

namespace Go.Vc
open Go.Proofs
set_option maxRecDepth 10000
def qOM (t : List qAE) (but : List UInt8) (x : Int) : Bool := (qET t x).1 == 1 && (W.kHtml (qET t x).2.1 (qET t x).2.2.1 W.cImpl && !(W.spl but).contains (qET t x).2.2.1)
def qV9 (q : Int → Bool) (l : List Int) : Nat → Nat
 | 0 => 0
 | 1 => 1
 | k + 2 => bif q (l.getD (k + 1) 0) then qV9 q l (k + 1) else k + 2
def qV8 (p : Int → Bool) (l : List Int) : Nat → Nat
 | 0 => 0
 | 1 => 1
 | k + 2 => bif p (l.getD (k + 1) 0) then k + 1 else qV8 p l (k + 1)
theorem qQY {q : Int → Bool} {l : List Int} {n : Nat} (h : 1 < n) : qV9 q l n = bif q (l.getD (n - 1) 0) then qV9 q l (n - 1) else n := by
 obtain ⟨k,rfl⟩ : ∃ k,n = k + 2 := ⟨n - 2,by omega⟩
 rw [qV9];rfl
theorem qO8 {q : Int → Bool} {l : List Int} {n : Nat} (h : 1 < n) : qV8 q l n = bif q (l.getD (n - 1) 0) then n - 1 else qV8 q l (n - 1) := by
 obtain ⟨k,rfl⟩ : ∃ k,n = k + 2 := ⟨n - 2,by omega⟩
 rw [qV8];rfl
theorem qbR {q : Int → Bool} {l : List Int} {n : Nat} (h : ¬ 1 < n) : qV9 q l n = n := by
 match n,h with
 | 0,_ => rfl
 | 1,_ => rfl
 | k + 2,h => omega
theorem qaS {q : Int → Bool} {l : List Int} {n : Nat} (h : ¬ 1 < n) : qV8 q l n = n := by
 match n,h with
 | 0,_ => rfl
 | 1,_ => rfl
 | k + 2,h => omega
theorem qcS {q : Int → Bool} {l : List Int} {n : Nat} (h : 1 < n) (hq : q (l.getD (n - 1) 0) = true) : qV9 q l n = qV9 q l (n - 1) := by rw [qQY h,hq];rfl
theorem qYJ {q : Int → Bool} {l : List Int} {n : Nat} (h : 1 < n) (hq : q (l.getD (n - 1) 0) = false) : qV9 q l n = n := by rw [qQY h,hq];rfl
end Go.Vc

namespace Go.Vc
open Go.Proofs
set_option maxRecDepth 10000
theorem qT8 {l : List Int} {n : Nat} (h : n ≤ l.length) : (l.take n).length = n := by simp;omega
theorem qP7 {l : List Int} {n k : Nat} (h : k < n) : (l.take n).getD k 0 = l.getD k 0 := by
 simp [List.getD,List.getElem?_take,h]
theorem qOL {l : List Int} {n : Nat} : (l.take n).take (n - 1) = l.take (n - 1) := by rw [List.take_take];congr 1;omega
theorem qO1 (t : List qAE) (but : List UInt8) (x : Int) : (!qOM t but x) = ((qET t x).1 != 1 || !W.kHtml (qET t x).2.1 (qET t x).2.2.1 W.cImpl || (W.spl but).contains (qET t x).2.2.1) := by
 simp only [qOM,Bool.not_and,Bool.not_not,bne,Bool.or_assoc]
theorem qaH {q : Int → Bool} {l : List Int} {n : Nat} (h : 1 < n) (hq : q (l.getD (n - 1) 0) = true) : qV8 q l n = n - 1 := by rw [qO8 h,hq];rfl
theorem qeN {q : Int → Bool} {l : List Int} {n : Nat} (h : 1 < n) (hq : q (l.getD (n - 1) 0) = false) : qV8 q l n = qV8 q l (n - 1) := by rw [qO8 h,hq];rfl
end Go.Vc

namespace Go.Vc
open Go.Proofs
set_option maxRecDepth 10000
def okI (n : Nat) (i : Int) : Prop := 0 ≤ i ∧ i < n
structure Ti (n : Nat) (U : Int → Int) (K : Int → List Int) : Prop where
 pos : 0 < n
 root : U 0 = -1
 kid : ∀ i,okI n i → ∀ k ∈ K i,okI n k ∧ U k = i
 up : ∀ i,okI n i → U i = -1 ∨ (okI n (U i) ∧ (K (U i)).count i = 1)
 dep : ∃ d : Int → Nat,∀ i,okI n i → U i ≠ -1 → d (U i) < d i
inductive Ds (U : Int → Int) (r : Int) : Int → Prop
 | here : Ds U r r
 | up {x : Int} : U x ≠ -1 → Ds U r (U x) → Ds U r x
theorem qPX {l : List Int} {p q : Int → Bool} (h : ∀ x ∈ l,p x = true → q x = true) (y : Int) (hy : y ∈ l) (hp : p y = false) (hq : q y = true) : l.countP p < l.countP q := by
 induction l with
 | nil => cases hy
 | cons a l ih =>
  have hle : l.countP p ≤ l.countP q := List.countP_mono_left fun x hx => h x (List.mem_cons_of_mem _ hx)
  rw [List.countP_cons,List.countP_cons]
  rcases List.mem_cons.1 hy with rfl | hy
  ·rw [hp,hq];simp;omega
  ·have := ih (fun x hx => h x (List.mem_cons_of_mem _ hx)) hy
   have ha := h a List.mem_cons_self
   cases hpa : p a
   ·simp;omega
   ·rw [ha hpa];simp;omega
theorem Ti.rank {n : Nat} {U : Int → Int} {K : Int → List Int} (h : Ti n U K) : ∃ d : Int → Nat,(∀ i,okI n i → d i < n) ∧ ∀ i,okI n i → U i ≠ -1 → d (U i) < d i := by
 obtain ⟨d,hd⟩ := h.dep
 let L : List Int := (List.range n).map fun (k : Nat) => (k : Int)
 have hL : ∀ i,okI n i → i ∈ L := fun i hi => List.mem_map.2 ⟨i.toNat,List.mem_range.2 (by have := hi.2;have := hi.1;omega),by have := hi.1;omega⟩
 refine ⟨fun i => L.countP fun y => decide (d y < d i),fun i hi => ?_,fun i hi hu => ?_⟩
 ·have h1 : L.countP (fun y => decide (d y < d i)) < L.countP (fun _ => true) := qPX (fun _ _ _ => rfl) i (hL i hi) (decide_eq_false (Nat.lt_irrefl _)) rfl
  have h2 : L.countP (fun _ => true) = n := by simp [L]
  show L.countP (fun y => decide (d y < d i)) < n
  omega
 ·have hd := hd i hi hu
  rcases h.up i hi with q | q
  ·exact absurd q hu
  ·exact qPX (fun x _ hx => decide_eq_true (Nat.lt_trans (of_decide_eq_true hx) hd)) (U i) (hL _ q.1) (decide_eq_false (Nat.lt_irrefl _)) (decide_eq_true hd)
theorem Ds.le {n : Nat} {U : Int → Int} {K : Int → List Int} (h : Ti n U K) {d : Int → Nat} (hd : ∀ i,okI n i → U i ≠ -1 → d (U i) < d i) {r x : Int} (s : Ds U r x) : okI n x → d r ≤ d x := by
 induction s with
 | here => intro _;exact Nat.le_refl _
 | @up x hu _ ih =>
  intro hx
  rcases h.up x hx with q | q
  ·exact absurd q hu
  ·exact Nat.le_trans (ih q.1) (Nat.le_of_lt (hd x hx hu))
theorem Ds.self {n : Nat} {U : Int → Int} {K : Int → List Int} (h : Ti n U K) {r : Int} (hr : okI n r) (hu : U r ≠ -1) : ¬ Ds U r (U r) := by
 obtain ⟨d,hd⟩ := h.dep
 intro s
 rcases h.up r hr with q | q
 ·exact hu q
 ·have h1 := s.le h hd q.1
  have h2 := hd r hr hu
  omega
theorem qT9 {n : Nat} {U : Int → Int} {K : Int → List Int} (h : Ti n U K) {i k : Int} (hi : okI n i) : k ∈ K i ↔ okI n k ∧ U k = i := by
 refine ⟨h.kid i hi k,fun ⟨hk,e⟩ => ?_⟩
 rcases h.up k hk with q | q
 ·have := hi.1;omega
 ·have h2 := q.2
  rw [e] at h2
  exact List.count_pos_iff.1 (by omega)
theorem qaJ {n : Nat} {U : Int → Int} {K : Int → List Int} (h : Ti n U K) {i : Int} (hi : okI n i) (k : Int) : (K i).count k ≤ 1 := by
 by_cases hk : k ∈ K i
 ·have hk' := (qT9 h hi).1 hk
  rcases h.up k hk'.1 with q | q
  ·have := hi.1;omega
  ·have h2 := q.2;rw [hk'.2] at h2;omega
 ·rw [List.count_eq_zero_of_not_mem hk];omega
theorem qLO : ∀ (n : Nat) (l : List Int),(∀ x ∈ l,0 ≤ x ∧ x < (n : Int)) → (∀ x,l.count x ≤ 1) → l.length ≤ n
 | 0,l,h,_ => by
  cases l with
  | nil => exact Nat.le_refl _
  | cons a l => have := h a List.mem_cons_self;omega
 | n + 1,l,h,h1 => by
  have h2 := qLO n (l.erase (n : Int)) (fun x hx => by
   have hm := h x (List.mem_of_mem_erase hx)
   have : x ≠ (n : Int) := fun e => by
    subst e
    have := List.count_pos_iff.2 hx
    rw [List.count_erase_self] at this
    have := h1 (n : Int);omega
   omega) (fun x => Nat.le_trans (List.Sublist.count_le _ List.erase_sublist) (h1 x))
  have h3 := List.length_erase (a := (n : Int)) (l := l)
  split at h3 <;> omega
theorem Ti.len {n : Nat} {U : Int → Int} {K : Int → List Int} (h : Ti n U K) {i : Int} (hi : okI n i) : (K i).length ≤ n :=
 qLO n (K i) (fun x hx => (h.kid i hi x hx).1) (qaJ h hi)
theorem Ti.add {n : Nat} {U U' : Int → Int} {K K' : Int → List Int} (h : Ti n U K) (hU : ∀ i,okI n i → U' i = U i) (hK : ∀ i,okI n i → K' i = K i) (hn : U' n = -1) (hk : K' n = []) : Ti (n + 1) U' K' := by
 have hs : ∀ i,okI (n + 1) i → okI n i ∨ i = n := fun i hi => by have := hi.1;have := hi.2;rcases Int.lt_or_le i n with q | q;exact .inl ⟨by omega,by omega⟩;exact .inr (by omega)
 have ho : ∀ i,okI n i → okI (n + 1) i := fun i hi => ⟨hi.1,by have := hi.2;omega⟩
 have h0 : okI n 0 := ⟨by omega,by have := h.pos;omega⟩
 obtain ⟨d,hd⟩ := h.dep
 refine ⟨by omega,by rw [hU 0 h0];exact h.root,fun i hi k hk' => ?_,fun i hi => ?_,d,fun i hi hu => ?_⟩
 ·rcases hs i hi with q | rfl
  ·rw [hK i q] at hk'
   have := h.kid i q k hk'
   exact ⟨ho _ this.1,by rw [hU _ this.1];exact this.2⟩
  ·rw [hk] at hk';cases hk'
 ·rcases hs i hi with q | rfl
  ·rw [hU i q]
   rcases h.up i q with q' | q'
   ·exact .inl q'
   ·exact .inr ⟨ho _ q'.1,by rw [hK _ q'.1];exact q'.2⟩
  ·exact .inl hn
 ·rcases hs i hi with q | rfl
  ·rw [hU i q] at hu ⊢;exact hd i q hu
  ·exact absurd hn hu
theorem Ti.congr {n : Nat} {U U' : Int → Int} {K K' : Int → List Int} (h : Ti n U K) (hU : ∀ i,okI n i → U' i = U i) (hK : ∀ i,okI n i → K' i = K i) : Ti n U' K' := by
 have h0 : okI n 0 := ⟨by omega,by have := h.pos;omega⟩
 obtain ⟨d,hd⟩ := h.dep
 refine ⟨h.pos,by rw [hU 0 h0];exact h.root,fun i hi k hk' => ?_,fun i hi => ?_,d,fun i hi hu => ?_⟩
 ·rw [hK i hi] at hk'
  have := h.kid i hi k hk'
  exact ⟨this.1,by rw [hU k this.1];exact this.2⟩
 ·rw [hU i hi]
  rcases h.up i hi with q | q
  ·exact .inl q
  ·exact .inr ⟨q.1,by rw [hK _ q.1];exact q.2⟩
 ·rw [hU i hi] at hu ⊢;exact hd i hi hu
theorem Ti.cut {n : Nat} {U U' : Int → Int} {K K' : Int → List Int} (h : Ti n U K) {kid : Int} (hk : okI n kid) (hu : U kid ≠ -1) (hU : ∀ i,okI n i → U' i = if i = kid then -1 else U i) (hK : ∀ i,okI n i → i ≠ U kid → K' i = K i)
  (hKp : ∀ k,(K' (U kid)).count k + (if k = kid then 1 else 0) = (K (U kid)).count k) : Ti n U' K' := by
 have h0 : okI n 0 := ⟨by omega,by have := h.pos;omega⟩
 have hp : okI n (U kid) ∧ (K (U kid)).count kid = 1 := (h.up kid hk).resolve_left hu
 obtain ⟨d,hd⟩ := h.dep
 have hne : ∀ i,okI n i → ∀ k,k ∈ K' i → k ∈ K i ∧ k ≠ kid := fun i hi k hk' => by
  by_cases e : i = U kid
  ·subst e
   have h1 := List.count_pos_iff.2 hk'
   have h2 := hKp k
   by_cases e' : k = kid
   ·subst e';rw [if_pos rfl,hp.2] at h2;omega
   ·rw [if_neg e'] at h2
    exact ⟨List.count_pos_iff.1 (by omega),e'⟩
  ·rw [hK i hi e] at hk'
   refine ⟨hk',fun e' => ?_⟩
   subst e'
   exact e (h.kid i hi _ hk').2.symm
 refine ⟨h.pos,?_,fun i hi k hk' => ?_,fun i hi => ?_,d,fun i hi hu' => ?_⟩
 ·rw [hU 0 h0];split
  ·rfl
  ·exact h.root
 ·obtain ⟨a,b⟩ := hne i hi k hk'
  have := h.kid i hi k a
  exact ⟨this.1,by rw [hU k this.1,if_neg b];exact this.2⟩
 ·rw [hU i hi]
  split
  ·exact .inl rfl
  ·rename_i e
   rcases h.up i hi with q | q
   ·exact .inl q
   ·refine .inr ⟨q.1,?_⟩
    by_cases e2 : U i = U kid
    ·have h2 := hKp i
     rw [if_neg e,Nat.add_zero] at h2
     rw [e2,h2, ← e2];exact q.2
    ·rw [hK _ q.1 e2];exact q.2
 ·rw [hU i hi] at hu' ⊢
  split at hu'
  ·exact absurd rfl hu'
  ·rename_i e;rw [if_neg e];exact hd i hi hu'
open Classical in
theorem Ti.put {n : Nat} {U U' : Int → Int} {K K' : Int → List Int} (h : Ti n U K) {kid p : Int} (hk : okI n kid) (hk0 : kid ≠ 0) (hp : okI n p) (hu : U kid = -1) (hd' : ¬ Ds U kid p) (hU : ∀ i,okI n i → U' i = if i = kid then p else U i)
  (hK : ∀ i,okI n i → i ≠ p → K' i = K i) (hKp : ∀ k,(K' p).count k = (K p).count k + if k = kid then 1 else 0) : Ti n U' K' := by
 have h0 : okI n 0 := ⟨by omega,by have := h.pos;omega⟩
 obtain ⟨d,hd⟩ := h.dep
 have hno : kid ∉ K p := fun q => by have := (h.kid p hp _ q).2;have := hp.1;omega
 refine ⟨h.pos,by rw [hU 0 h0,if_neg (Ne.symm hk0)];exact h.root,fun i hi k hk' => ?_,fun i hi => ?_,fun x => if Ds U kid x then d x + d p + 1 else d x,fun i hi hu' => ?_⟩
 ·by_cases e : i = p
  ·subst e
   have hc := List.count_pos_iff.2 hk'
   rw [hKp] at hc
   by_cases ek : k = kid
   ·subst ek;exact ⟨hk,by rw [hU k hk,if_pos rfl]⟩
   ·rw [if_neg ek] at hc
    have := h.kid i hi k (List.count_pos_iff.1 (by omega))
    exact ⟨this.1,by rw [hU k this.1,if_neg ek];exact this.2⟩
  ·rw [hK i hi e] at hk'
   have := h.kid i hi k hk'
   exact ⟨this.1,by rw [hU k this.1,if_neg (fun ek => by subst ek;have := hi.1;omega)];exact this.2⟩
 ·rw [hU i hi]
  split
  ·rename_i e
   subst e
   exact .inr ⟨hp,by rw [hKp,if_pos rfl,List.count_eq_zero_of_not_mem hno]⟩
  ·rename_i e
   rcases h.up i hi with q | q
   ·exact .inl q
   ·refine .inr ⟨q.1,?_⟩
    by_cases eq : U i = p
    ·rw [eq,hKp,if_neg e,Nat.add_zero, ← eq];exact q.2
    ·rw [hK _ q.1 eq];exact q.2
 ·rw [hU i hi] at hu' ⊢
  by_cases e : i = kid
  ·subst e
   simp only [if_true]
   rw [if_neg hd',if_pos Ds.here];omega
  ·rw [if_neg e] at hu' ⊢
   have hlt := hd i hi hu'
   have hiff : Ds U kid i ↔ Ds U kid (U i) := ⟨fun s => by cases s with | here => exact absurd rfl e | up _ s => exact s,fun s => .up hu' s⟩
   simp only
   by_cases hs : Ds U kid i
   ·rw [if_pos hs,if_pos (hiff.1 hs)];omega
   ·rw [if_neg hs,if_neg (fun q => hs (hiff.2 q))];exact hlt
open Classical in
theorem Ti.move {n : Nat} {U U' : Int → Int} {K K' : Int → List Int} (h : Ti n U K) {a b : Int} (ha : okI n a) (hb : okI n b) (hd' : ¬ Ds U a b) (hU : ∀ i,okI n i → U' i = if i ∈ K a then b else U i)
    (hKa : K' a = []) (hKb : K' b = K b ++ K a) (hK : ∀ i,okI n i → i ≠ a → i ≠ b → K' i = K i) : Ti n U' K' := by
  have h0 : okI n 0 := ⟨by omega,by have := h.pos;omega⟩
  have hab : b ≠ a := fun e => hd' (by rw [e];exact .here)
  obtain ⟨d,hd⟩ := h.dep
  have hm : ∀ i,okI n i → (i ∈ K a ↔ U i = a) := fun i hi => by rw [qT9 h ha];exact ⟨fun q => q.2,fun q => ⟨hi,q⟩⟩
  have hU2 : ∀ i,okI n i → U' i = if U i = a then b else U i := fun i hi => by
    rw [hU i hi]
    by_cases q : i ∈ K a
    · rw [if_pos q,if_pos ((hm i hi).1 q)]
    · rw [if_neg q,if_neg (fun e => q ((hm i hi).2 e))]
  refine ⟨h.pos,by rw [hU2 0 h0,h.root,if_neg (by have := ha.1;omega)],fun i hi k hk' => ?_,fun i hi => ?_,fun x => if Ds U a x ∧ x ≠ a then d x + d b + 1 else d x,fun i hi hu' => ?_⟩
  · by_cases ea : i = a
    · subst ea;rw [hKa] at hk';cases hk'
    · by_cases eb : i = b
      · subst eb
        rw [hKb] at hk'
        rcases List.mem_append.1 hk' with q | q
        · have := h.kid i hi k q
          exact ⟨this.1,by rw [hU2 k this.1,this.2,if_neg hab]⟩
        · have := h.kid a ha k q
          exact ⟨this.1,by rw [hU2 k this.1,if_pos this.2]⟩
      · rw [hK i hi ea eb] at hk'
        have := h.kid i hi k hk'
        exact ⟨this.1,by rw [hU2 k this.1,this.2,if_neg ea]⟩
  · rw [hU2 i hi]
    by_cases e : U i = a
    · rw [if_pos e]
      refine .inr ⟨hb,?_⟩
      rw [hKb,List.count_append,List.count_eq_zero_of_not_mem (fun q => hab ((h.kid b hb i q).2.symm.trans e))]
      rcases h.up i hi with q | q
      · have := ha.1;omega
      · have h2 := q.2;rw [e] at h2;omega
    · rw [if_neg e]
      rcases h.up i hi with q | q
      · exact .inl q
      · refine .inr ⟨q.1,?_⟩
        by_cases eb : U i = b
        · rw [eb,hKb,List.count_append,List.count_eq_zero_of_not_mem (l := K a) (fun q' => e ((hm i hi).1 q'))]
          have h2 := q.2;rw [eb] at h2;omega
        · rw [hK _ q.1 e eb];exact q.2
  · rw [hU2 i hi] at hu' ⊢
    by_cases e : U i = a
    · rw [if_pos e]
      have hi2 : i ≠ a := fun q => by
        have hlt := hd i hi (by rw [e];have := ha.1;omega)
        rw [e,q] at hlt;omega
      simp only
      rw [if_neg (fun q => hd' q.1),if_pos ⟨.up (by rw [e];have := ha.1;omega) (by rw [e];exact .here),hi2⟩]
      omega
    · rw [if_neg e] at hu' ⊢
      have hlt := hd i hi hu'
      simp only
      by_cases hs : Ds U a i ∧ i ≠ a
      · have hs2 : Ds U a (U i) := by
          cases hs.1 with
          | here => exact absurd rfl hs.2
          | up _ s => exact s
        rw [if_pos hs,if_pos ⟨hs2,e⟩];omega
      · rw [if_neg hs]
        split
        · rename_i q
          by_cases hi2 : i = a
          · subst hi2
            exact absurd q.1 (Ds.self h hi hu')
          · exact absurd ⟨.up hu' q.1,hi2⟩ hs
        · exact hlt
end Go.Vc

namespace Go.Vc
open Go.Proofs
set_option maxRecDepth 10000
set_option maxHeartbeats 4000000
instance hNew : FnM BB 74 [] [] True (.agg [.own 0]) [(0,.own qAC [qYA])] := by
 refine FnM.intro (N := 4) [0] [] 0 Tryz.call74 Tryz.func74 rfl rfl (by kernel_rfl) (fun hpre => ?_)
 all_goals exact vcA
instance hIs (l : List qAE) (i : Int) : Fn BB 166 [.agg [.rd qAC l],.int .i64 i] True (.bool (isT l i)) := by
 refine Fn.intro (N := 14) [0,1,2,4] [] Tryz.call166 Tryz.func166 rfl rfl (by kernel_rfl) (fun hpre => ?_)
 all_goals exact vcA
instance hHolds (l : List qAE) (up kid : Int) : Fn BB 168 [.agg [.rd qAC l],.int .i64 up,.int .i64 kid] (l.length ≤ 100000) (.bool (qMA l up kid)) := by
  refine Fn.intro (N := 34) [0,1,2,3,6,7,22,27] [] Tryz.call168 Tryz.func168 rfl rfl (by kernel_rfl) (fun hpre => ?_)
  repeat' ((conv => whnf);first|(with_reducible first|rfl|exact qAH|exact qAG)|exact True.intro|intro _|refine WA ?_ ?_|refine WF ?_|refine W1 rfl ?_ ?_|refine W2 rfl ?_ ?_|refine W3 rfl ?_ ?_|refine W4 ?_ ?_|refine W5 rfl ?_ ?_|refine W6 ?_ ?_|refine WN ?_|refine X1 (W1 rfl ?_ ?_)|refine X1 (W2 rfl ?_ ?_)|refine X2 (W7 rfl ?_ ?_)|refine X3 (W7 rfl ?_ ?_)|refine X4 (W7 rfl ?_ ?_)|refine X5 (W7 rfl ?_ ?_))
  all_goals (try (conv => whnf))
  all_goals (try first|exact obA|refine Ob.mk ?_)
  refine LoopStop.mk (α := Nat × Int) (fun a => [(7,.int .i64 (a.1 : Nat)),(2,.int .i64 a.2)]) (fun _ => []) 30 (fun a => a.1 ≤ l.length + 1 ∧ (isT l up && qG4 (l.length + 1 - a.1) l up a.2) = qMA l up kid) (fun a => l.length + 1 - a.1) (0,kid) ⟨by simp,rfl⟩ ?_ (fun a ha => ?_)
  · all_goals exact vcA
  · obtain ⟨k,x⟩ := a
    obtain ⟨h1,h2⟩ := ha
    dsimp only at h1 h2
    have c1 : (decide ((k : Int) ≤ (l.length : Int)) && isT l x && isT l up) = true → k ≤ l.length ∧ isT l x = true ∧ isT l up = true ∧ qG4 (l.length + 1 - k) l up x = qMA l up kid := fun h => by
      simp only [Bool.and_eq_true] at h
      have h3 := of_decide_eq_true h.1.1
      rw [h.2,Bool.true_and] at h2
      exact ⟨by omega,h.1.2,h.2,h2⟩
    have c0 : (decide ((k : Int) ≤ (l.length : Int)) && isT l x && isT l up) = false → false = qMA l up kid := fun h => by
      rw [← h2]
      by_cases hu : isT l up = true
      · by_cases hx : isT l x = true
        · rw [hu,hx,Bool.and_true,Bool.and_true] at h
          have := of_decide_eq_false h
          rw [show l.length + 1 - k = 0 by omega,hu];rfl
        · have : qG4 (l.length + 1 - k) l up x = false := by
            cases l.length + 1 - k with
            | zero => rfl
            | succ m => rw [qG4,if_neg hx]
          rw [this,Bool.and_false]
      · rw [show isT l up = false by simpa using hu];rfl
    have c2 : (decide ((k : Int) ≤ (l.length : Int)) && isT l x && isT l up) = true → (x == up) = true → true = qMA l up kid := fun h h' => by
      obtain ⟨q1,q2,q3,q4⟩ := c1 h
      rw [← q4,show l.length + 1 - k = (l.length - k) + 1 by omega,qG4,if_pos q2,if_pos (by simpa using h')]
    have c3 : (decide ((k : Int) ≤ (l.length : Int)) && isT l x && isT l up) = true → (x == up) = false → k ≤ l.length ∧ (isT l up && qG4 (l.length + 1 - (k + 1)) l up (nd l x).up) = qMA l up kid := fun h h' => by
      obtain ⟨q1,q2,q3,q4⟩ := c1 h
      rw [← q4,show l.length + 1 - k = (l.length - k) + 1 by omega,qG4,if_pos q2,if_neg (by simpa using h'),q3,Bool.true_and,show l.length + 1 - (k + 1) = l.length - k by omega]
      exact ⟨q1,rfl⟩
    repeat' ((conv => whnf);first|(with_reducible first|rfl|exact qAH|exact qAG)|exact True.intro|intro _|refine WA ?_ ?_|refine WF ?_|refine W1 rfl ?_ ?_|refine W2 rfl ?_ ?_|refine W3 rfl ?_ ?_|refine W4 ?_ ?_|refine W5 rfl ?_ ?_|refine W6 ?_ ?_|refine WN ?_|refine X1 (W1 rfl ?_ ?_)|refine X1 (W2 rfl ?_ ?_)|refine X2 (W7 rfl ?_ ?_)|refine X3 (W7 rfl ?_ ?_)|refine X4 (W7 rfl ?_ ?_)|refine X5 (W7 rfl ?_ ?_))
    all_goals (try (conv => whnf))
    all_goals (try first|exact obA|refine Ob.mk ?_)
    all_goals (try dsimp only at *)
    all_goals (first | exact c2 ‹_› ‹_› | exact c0 ‹_› | exact qD3.1 (c1 ‹_›).2.1 | (have := (c1 ‹_›).1;omega) | skip)
    obtain ⟨q1,q2⟩ := c3 ‹_› ‹_›
    refine Rnd.mk ⟨(k + 1,(nd l x).up),⟨by simp only;omega,q2⟩,by simp only;omega,?_⟩
    repeat' ((conv => whnf);first|(with_reducible first|rfl|exact qAH|exact qAG)|exact True.intro|intro _|refine WA ?_ ?_|refine WF ?_|refine W1 rfl ?_ ?_|refine W2 rfl ?_ ?_|refine W3 rfl ?_ ?_|refine W4 ?_ ?_|refine W5 rfl ?_ ?_|refine W6 ?_ ?_|refine WN ?_|refine X1 (W1 rfl ?_ ?_)|refine X1 (W2 rfl ?_ ?_)|refine X2 (W7 rfl ?_ ?_)|refine X3 (W7 rfl ?_ ?_)|refine X4 (W7 rfl ?_ ?_)|refine X5 (W7 rfl ?_ ?_))
    all_goals (try (conv => whnf))
    all_goals (try first|exact obA|refine Ob.mk ?_)
    all_goals (first | rfl | omega | trace_state)
end Go.Vc

namespace Go.Vc
open Go.Proofs
set_option maxRecDepth 10000
set_option maxHeartbeats 4000000
theorem qN6 (l : List Int) (i : Nat) (h : i < l.length) : l.take (i + 1) = l.take i ++ [l.getD i 0] := by
 rw [List.take_succ_eq_append_getElem h];simp [List.getD,List.getElem?_eq_getElem h]
def qZQ (l : List Int) (a : Nat) (n : Int) (i : Nat) : List Int := (l.take a).take i ++ ((if a < i then [n] else []) ++ (l.take i).drop a)
theorem qWP (l : List Int) (a : Nat) (n : Int) (i : Nat) (h : i ≤ l.length) (ha : a ≤ l.length) : qZQ l a n (i + 1) = (if i = a then qZQ l a n i ++ [n] else qZQ l a n i) ++ (if i < l.length then [l.getD i 0] else []) := by
 unfold qZQ
 rcases Nat.lt_trichotomy i a with q | q | q
 ·rw [if_neg (show ¬ a < i + 1 by omega),if_neg (show ¬ a < i by omega),if_neg (show ¬ i = a by omega),if_pos (by omega),List.take_take,List.take_take,Nat.min_eq_left (by omega),Nat.min_eq_left (by omega),List.drop_eq_nil_of_le (by rw [List.length_take];omega),List.drop_eq_nil_of_le (by rw [List.length_take];omega)]
  simp only [List.append_nil]
  exact qN6 l i (by omega)
 ·subst q
  have hdr : (l.take i).drop i = [] := List.drop_eq_nil_of_le (by rw [List.length_take];omega)
  rw [if_pos (show i < i + 1 by omega),if_neg (show ¬ i < i by omega),if_pos rfl,List.take_take,List.take_take,Nat.min_eq_right (by omega),Nat.min_self,hdr]
  simp only [List.append_nil,List.append_assoc]
  congr 2
  by_cases hl : i < l.length
  ·rw [if_pos hl,qN6 l i hl,List.drop_append_of_le_length (by rw [List.length_take];omega),List.drop_eq_nil_of_le (by rw [List.length_take];omega)];rfl
  ·rw [if_neg hl,List.drop_eq_nil_of_le (by rw [List.length_take];omega)]
 ·rw [if_pos (show a < i + 1 by omega),if_pos (show a < i by omega),if_neg (show ¬ i = a by omega),List.take_take,List.take_take,Nat.min_eq_right (by omega),Nat.min_eq_right (by omega)]
  by_cases hl : i < l.length
  ·rw [if_pos hl,qN6 l i hl,List.drop_append_of_le_length (by rw [List.length_take];omega)]
   simp only [List.append_assoc]
  ·rw [if_neg hl,List.append_nil,List.take_of_length_le (l := l) (i := i + 1) (by omega),List.take_of_length_le (l := l) (i := i) (by omega)]
theorem qa4 (l : List Int) (a : Nat) (n : Int) (h : a ≤ l.length) : qZQ l a n (l.length + 1) = l.take a ++ n :: l.drop a := by
 unfold qZQ
 rw [if_pos (by omega),List.take_take,List.take_of_length_le (l := l) (i := l.length + 1) (by omega),Nat.min_eq_right (by omega)]
 rfl
theorem qaK (l : List Int) (a : Nat) (n : Int) (i : Nat) : (qZQ l a n i).length ≤ i + 1 + i := by
 unfold qZQ;simp only [List.length_append,List.length_take,List.length_drop];split <;> simp <;> omega
instance hPlace (l : List qAE) (kid : Int) : Fn BB 127 [.agg [.rd qAC l],.int .i64 kid] True (.int .i64 (qOC l kid)) := by
 refine Fn.intro (N := 46) [0,1,2,4,5,6,21,36,44] [(1,[1,0,1,1,1,1,1,1,1,1,1,1,3,3,3]),(3,[0,1,0,1,0,1,1,1,3,3,3,3])] Tryz.call127 Tryz.func127 rfl rfl (by kernel_rfl) (fun hpre => ?_)
 have p0 : (!isT l kid || !isT l (nd l kid).up) = true → (-1 : Int) = qOC l kid := fun h => by
  have h := qRS h
  unfold qOC;rw [h];rfl
 have p1 : (!isT l kid || !isT l (nd l kid).up) = false → (0 ≤ kid ∧ kid < l.length) ∧ (0 ≤ (nd l kid).up ∧ (nd l kid).up < l.length) ∧ qOC l kid = qMD (nd l (nd l kid).up).kids kid := fun h => by
  obtain ⟨h1,h2⟩ := qO0 h
  refine ⟨qD3.1 h1,qD3.1 h2,?_⟩
  unfold qOC;rw [h1,h2];rfl
 repeat' ((conv => whnf);first|(with_reducible first|rfl|exact qAH|exact qAG)|exact True.intro|intro _|refine WA ?_ ?_|refine WF ?_|refine W1 rfl ?_ ?_|refine W2 rfl ?_ ?_|refine W3 rfl ?_ ?_|refine W4 ?_ ?_|refine W5 rfl ?_ ?_|refine W6 ?_ ?_|refine WN ?_|refine X1 (W1 rfl ?_ ?_)|refine X1 (W2 rfl ?_ ?_)|refine X2 (W7 rfl ?_ ?_)|refine X3 (W7 rfl ?_ ?_)|refine X4 (W7 rfl ?_ ?_)|refine X5 (W7 rfl ?_ ?_))
 all_goals (try (conv => whnf))
 all_goals (try first|exact obA|refine Ob.mk ?_)
 all_goals (try (have q := p0 ‹(!isT l kid || !isT l (nd l kid).up) = true›))
 all_goals (try (have q := p1 ‹(!isT l kid || !isT l (nd l kid).up) = false›;obtain ⟨q1,q2,q3⟩ := q))
 all_goals (first | exact q | exact q1 | exact q2 | (exact qD3.1 (by simp_all;done)) | skip)
 generalize hks : (nd l (nd l kid).up).kids = ks at *
 have hks' : (l.getD (l.getD kid.toNat qAC.dflt).2.2.2.2.2.1.toNat qAC.dflt).2.2.2.2.2.2 = ks := hks
 try rw [hks']
 refine LoopStop.mk (α := Nat) (fun i => [(6,.int .i64 i)]) (fun _ => []) 20 (fun i => i ≤ ks.length ∧ (ks.take i).contains kid = false) (fun i => ks.length - i) 0 (by simp) ?_ (fun i hi => ?_)
 ·all_goals exact vcA
 ·obtain ⟨hi,ha⟩ := hi
  repeat' ((conv => whnf);first|(with_reducible first|rfl|exact qAH|exact qAG)|exact True.intro|intro _|refine WA ?_ ?_|refine WF ?_|refine W1 rfl ?_ ?_|refine W2 rfl ?_ ?_|refine W3 rfl ?_ ?_|refine W4 ?_ ?_|refine W5 rfl ?_ ?_|refine W6 ?_ ?_|refine WN ?_|refine X1 (W1 rfl ?_ ?_)|refine X1 (W2 rfl ?_ ?_)|refine X2 (W7 rfl ?_ ?_)|refine X3 (W7 rfl ?_ ?_)|refine X4 (W7 rfl ?_ ?_)|refine X5 (W7 rfl ?_ ?_))
  all_goals (try (conv => whnf))
  all_goals (try first|exact obA|refine Ob.mk ?_)
  all_goals (try (have b1 := of_decide_eq_true ‹decide ((i : Int) < (ks.length : Int)) = true›))
  all_goals (try (have b1 := of_decide_eq_false ‹decide ((i : Int) < (ks.length : Int)) = false›))
  all_goals (try simp only [Int.toNat_natCast] at *)
  ·rw [q3,qM8 (i := i) (by omega) ha (eq_of_beq (show (ks.getD i 0 == kid) = true from ‹_›)).symm]
  ·have h : (ks.getD i 0 == kid) = false := ‹_›
   refine Rnd.mk ⟨i + 1,⟨by omega,by rw [qG8 ks i kid (by omega),ha,h];rfl⟩,by omega,?_⟩
   repeat' ((conv => whnf);first|(with_reducible first|rfl|exact qAH|exact qAG)|exact True.intro|intro _|refine WA ?_ ?_|refine WF ?_|refine W1 rfl ?_ ?_|refine W2 rfl ?_ ?_|refine W3 rfl ?_ ?_|refine W4 ?_ ?_|refine W5 rfl ?_ ?_|refine W6 ?_ ?_|refine WN ?_|refine X1 (W1 rfl ?_ ?_)|refine X1 (W2 rfl ?_ ?_)|refine X2 (W7 rfl ?_ ?_)|refine X3 (W7 rfl ?_ ?_)|refine X4 (W7 rfl ?_ ?_)|refine X5 (W7 rfl ?_ ?_))
   all_goals (try (conv => whnf))
   all_goals (try first|exact obA|refine Ob.mk ?_)
   all_goals (first | rfl | omega | trace_state)
  ·obtain rfl : i = ks.length := by omega
   rw [q3,qHS (by rw [List.take_length] at ha;exact ha)]
instance hWith (l : List Int) (at_ n : Int) : Fn BB 170 [.rd qAI l,.int .i64 at_,.int .i64 n] (0 ≤ at_ ∧ at_ ≤ l.length ∧ l.length ≤ 100000) (.rd qAI (l.take at_.toNat ++ n :: l.drop at_.toNat)) := by
 refine Fn.intro (N := 34) [0,1,2,6,7,8,12,17,25] [] Tryz.call170 Tryz.func170 rfl rfl (by kernel_rfl) (fun hpre => ?_)
 obtain ⟨p1,p2,p3⟩ := hpre
 obtain ⟨a,rfl⟩ := Int.eq_ofNat_of_zero_le p1
 have hen := qa4 l a n (by omega)
 rw [Int.toNat_natCast]
 repeat' ((conv => whnf);first|(with_reducible first|rfl|exact qAH|exact qAG)|exact True.intro|intro _|refine WA ?_ ?_|refine WF ?_|refine W1 rfl ?_ ?_|refine W2 rfl ?_ ?_|refine W3 rfl ?_ ?_|refine W4 ?_ ?_|refine W5 rfl ?_ ?_|refine W6 ?_ ?_|refine WN ?_|refine X1 (W1 rfl ?_ ?_)|refine X1 (W2 rfl ?_ ?_)|refine X2 (W7 rfl ?_ ?_)|refine X3 (W7 rfl ?_ ?_)|refine X4 (W7 rfl ?_ ?_)|refine X5 (W7 rfl ?_ ?_))
 all_goals (try (conv => whnf))
 all_goals (try first|exact obA|refine Ob.mk ?_)
 refine LoopStop.mk (α := Nat) (fun i => [(8,.int .i64 i),(7,.own 20)]) (fun i => [(20,.own qAI (qZQ l a n i))]) 30 (fun i => i ≤ l.length + 1) (fun i => l.length + 1 - i) 0 (by simp) ?_ (fun i hi => ?_)
 ·repeat' ((conv => whnf);first|(with_reducible first|rfl|exact qAH|exact qAG)|exact True.intro|intro _|refine WA ?_ ?_|refine WF ?_|refine W1 rfl ?_ ?_|refine W2 rfl ?_ ?_|refine W3 rfl ?_ ?_|refine W4 ?_ ?_|refine W5 rfl ?_ ?_|refine W6 ?_ ?_|refine WN ?_|refine X1 (W1 rfl ?_ ?_)|refine X1 (W2 rfl ?_ ?_)|refine X2 (W7 rfl ?_ ?_)|refine X3 (W7 rfl ?_ ?_)|refine X4 (W7 rfl ?_ ?_)|refine X5 (W7 rfl ?_ ?_))
  all_goals (try (conv => whnf))
  all_goals (try first|exact obA|refine Ob.mk ?_)
  all_goals (first | rfl | (simp [qZQ];done) | trace_state)
 ·have hl := qaK l a n i
  have hst := qWP l a n i
  repeat' ((conv => whnf);first|(with_reducible first|rfl|exact qAH|exact qAG)|exact True.intro|intro _|refine WA ?_ ?_|refine WF ?_|refine W1 rfl ?_ ?_|refine W2 rfl ?_ ?_|refine W3 rfl ?_ ?_|refine W4 ?_ ?_|refine W5 rfl ?_ ?_|refine W6 ?_ ?_|refine WN ?_|refine X1 (W1 rfl ?_ ?_)|refine X1 (W2 rfl ?_ ?_)|refine X2 (W7 rfl ?_ ?_)|refine X3 (W7 rfl ?_ ?_)|refine X4 (W7 rfl ?_ ?_)|refine X5 (W7 rfl ?_ ?_))
  all_goals (try (conv => whnf))
  all_goals (try first|exact obA|refine Ob.mk ?_)
  all_goals (try (have b := of_decide_eq_true ‹decide ((i : Int) ≤ (l.length : Int)) = true›;have hs := hst (by omega) (by omega)))
  all_goals (try (have e1 : i = a := by (have h : ((i : Int) == (a : Int)) = true := ‹_›;have := eq_of_beq h;omega)))
  all_goals (try (have e1 : ¬ i = a := by (have h : ((i : Int) == (a : Int)) = false := ‹_›;rw [beq_eq_false_iff_ne] at h;omega)))
  all_goals (try (have b2 : i < l.length := by (have h := of_decide_eq_true ‹decide ((i : Int) < (l.length : Int)) = true›;omega)))
  all_goals (try (have b2 : ¬ i < l.length := by (have h := of_decide_eq_false ‹decide ((i : Int) < (l.length : Int)) = false›;omega)))
  all_goals (try rw [if_pos e1] at hs)
  all_goals (try rw [if_neg e1] at hs)
  all_goals (try rw [if_pos b2] at hs)
  all_goals (try rw [if_neg b2,List.append_nil] at hs)
  all_goals (try simp only [Int.toNat_natCast] at *)
  all_goals (try (refine Rnd.mk ⟨i + 1,by omega,by omega,?_⟩))
  all_goals (first | omega | exact ⟨by omega,by omega⟩ | (show _ * 8 ≤ _ ∧ _ ≤ _;exact ⟨by simp only [List.length_append,List.length_cons,List.length_nil];omega,by simp only [List.length_append,List.length_cons,List.length_nil];omega⟩) | skip)
  all_goals (try (have b := of_decide_eq_false ‹decide ((i : Int) ≤ (l.length : Int)) = false›;rw [show i = l.length + 1 by omega,hen]))
  repeat' ((conv => whnf);first|(with_reducible first|rfl|exact qAH|exact qAG)|exact True.intro|intro _|refine WA ?_ ?_|refine WF ?_|refine W1 rfl ?_ ?_|refine W2 rfl ?_ ?_|refine W3 rfl ?_ ?_|refine W4 ?_ ?_|refine W5 rfl ?_ ?_|refine W6 ?_ ?_|refine WN ?_|refine X1 (W1 rfl ?_ ?_)|refine X1 (W2 rfl ?_ ?_)|refine X2 (W7 rfl ?_ ?_)|refine X3 (W7 rfl ?_ ?_)|refine X4 (W7 rfl ?_ ?_)|refine X5 (W7 rfl ?_ ?_))
  all_goals (try (conv => whnf))
  all_goals (try first|exact obA|refine Ob.mk ?_)
  all_goals (first | rfl | omega | (rw [hs];done) | (rw [hs];rfl) | trace_state)
end Go.Vc

namespace Go.Vc
set_option autoImplicit false
abbrev Ev := Nat × Int × Nat × Bool
def unseen (s : List Bool) : Nat := s.count false
def okK (s : List Bool) (k : Int) : Bool := decide (0 ≤ k) && !(s.getD k.toNat true)
theorem qBL {s : List Bool} {k : Int} (h : okK s k = true) : 0 ≤ k ∧ k.toNat < s.length ∧ s[k.toNat]? = some false := by
 unfold okK at h
 simp only [Bool.and_eq_true,decide_eq_true_eq,Bool.not_eq_true'] at h
 have hl : k.toNat < s.length := by
  rcases Nat.lt_or_ge k.toNat s.length with q | q
  ·exact q
  ·have := h.2;simp [List.getD,List.getElem?_eq_none q] at this
 refine ⟨h.1,hl,?_⟩
 have := h.2
 rw [List.getD_eq_getElem?_getD,List.getElem?_eq_getElem hl] at this
 rw [List.getElem?_eq_getElem hl]
 simpa using this
theorem qA9 {s : List Bool} {k : Nat} (h : s[k]? = some false) : unseen (s.set k true) + 1 = unseen s := by
 unfold unseen
 induction s generalizing k with
 | nil => cases h
 | cons x r ih =>
  cases k with
  | zero => simp at h;subst h;simp
  | succ k =>
   have := ih (k := k) (by simpa using h)
   simp only [List.set_cons_succ,List.count_cons]
   omega
def dfs (K : Nat → List Int) (s : List Bool) (i j c : Nat) : List Ev × List Bool × Nat :=
 if h : j < (K i).length then
  if hk : okK s ((K i).getD j 0) = true then
   let r1 := dfs K (s.set ((K i).getD j 0).toNat true) ((K i).getD j 0).toNat 0 (c + 1)
   if hg : unseen r1.2.1 < unseen s then
    let r2 := dfs K r1.2.1 i (j + 1) r1.2.2
    ((((K i).getD j 0).toNat,(i : Int),c,false) :: (r1.1 ++ r2.1),r2.2.1,r2.2.2)
   else ([],s,c)
  else dfs K s i (j + 1) c
 else ([(i,0,c,true)],s,c + 1)
termination_by (unseen s,(K i).length - j)
decreasing_by
 ·have := qA9 (qBL hk).2.2
  exact Prod.Lex.left _ _ (by omega)
 ·exact Prod.Lex.left _ _ hg
 ·exact Prod.Lex.right _ (by omega)
variable {K : Nat → List Int}
theorem qC2 {s : List Bool} {i j c : Nat} (h : ¬ j < (K i).length) : dfs K s i j c = ([(i,0,c,true)],s,c + 1) := by
 rw [dfs,dif_neg h]
theorem qC4 {s : List Bool} {i j c : Nat} (h : j < (K i).length) (hk : okK s ((K i).getD j 0) = false) : dfs K s i j c = dfs K s i (j + 1) c := by
 rw [dfs,dif_pos h,dif_neg (by rw [hk];decide)]
theorem qYX {s : List Bool} {i j c : Nat} (h : j < (K i).length) (hk : okK s ((K i).getD j 0) = true) : dfs K s i j c =
  (let r1 := dfs K (s.set ((K i).getD j 0).toNat true) ((K i).getD j 0).toNat 0 (c + 1)
   if hg : unseen r1.2.1 < unseen s then
    let r2 := dfs K r1.2.1 i (j + 1) r1.2.2
    ((((K i).getD j 0).toNat,(i : Int),c,false) :: (r1.1 ++ r2.1),r2.2.1,r2.2.2)
   else ([],s,c)) := by
 rw [dfs,dif_pos h,dif_pos hk]
theorem qTQ {P : List Bool → Nat → Nat → Nat → Prop}
  (h : ∀ s i j c,(∀ s' i' j' c',(unseen s' < unseen s ∨ (unseen s' = unseen s ∧ (K i').length - j' < (K i).length - j)) → P s' i' j' c') → P s i j c) : ∀ s i j c,P s i j c := by
 have main : ∀ a b s i j c,unseen s = a → (K i).length - j = b → P s i j c := by
  intro a
  induction a using Nat.strongRecOn with
  | ind a iha =>
   intro b
   induction b using Nat.strongRecOn with
   | ind b ihb =>
    intro s i j c ha hb
    refine h s i j c fun s' i' j' c' q => ?_
    rcases q with q | ⟨q1,q2⟩
    ·exact iha (unseen s') (by omega) _ s' i' j' c' rfl rfl
    ·exact ihb _ (by omega) s' i' j' c' (by omega) rfl
 exact fun s i j c => main _ _ s i j c rfl rfl
theorem qW6 : ∀ (s : List Bool) (i j c : Nat),unseen (dfs K s i j c).2.1 ≤ unseen s := by
 refine qTQ (K := K) fun s i j c ih => ?_
 by_cases h : j < (K i).length
 ·cases hk : okK s ((K i).getD j 0) with
  | false => rw [qC4 h hk];exact ih s i (j + 1) c (.inr ⟨rfl,by omega⟩)
  | true =>
   rw [qYX h hk]
   dsimp only
   split
   ·rename_i hg
    have := ih _ i (j + 1) (dfs K (s.set ((K i).getD j 0).toNat true) ((K i).getD j 0).toNat 0 (c + 1)).2.2 (.inl hg)
    exact Nat.le_trans this (Nat.le_of_lt hg)
   ·exact Nat.le_refl _
 ·rw [qC2 h];exact Nat.le_refl _
theorem qQH {s : List Bool} {k : Nat} (hk : s[k]? = some false) (c : Nat) : unseen (dfs K (s.set k true) k 0 c).2.1 < unseen s := by
 have h1 := qW6 (K := K) (s.set k true) k 0 c
 have h2 := qA9 hk
 omega
theorem qFE {s : List Bool} {i j c : Nat} (h : j < (K i).length) (hk : okK s ((K i).getD j 0) = true) : dfs K s i j c =
    ((((K i).getD j 0).toNat,(i : Int),c,false) :: ((dfs K (s.set ((K i).getD j 0).toNat true) ((K i).getD j 0).toNat 0 (c + 1)).1 ++
      (dfs K (dfs K (s.set ((K i).getD j 0).toNat true) ((K i).getD j 0).toNat 0 (c + 1)).2.1 i (j + 1) (dfs K (s.set ((K i).getD j 0).toNat true) ((K i).getD j 0).toNat 0 (c + 1)).2.2).1),
     (dfs K (dfs K (s.set ((K i).getD j 0).toNat true) ((K i).getD j 0).toNat 0 (c + 1)).2.1 i (j + 1) (dfs K (s.set ((K i).getD j 0).toNat true) ((K i).getD j 0).toNat 0 (c + 1)).2.2).2.1,
     (dfs K (dfs K (s.set ((K i).getD j 0).toNat true) ((K i).getD j 0).toNat 0 (c + 1)).2.1 i (j + 1) (dfs K (s.set ((K i).getD j 0).toNat true) ((K i).getD j 0).toNat 0 (c + 1)).2.2).2.2) := by
  rw [qYX h hk]
  dsimp only
  rw [dif_pos (qQH (qBL hk).2.2 (c + 1))]
theorem qGS {P : List Bool → Nat → Nat → Nat → Prop}
  (he : ∀ s i j c,¬ j < (K i).length → P s i j c)
  (hb : ∀ s i j c,j < (K i).length → okK s ((K i).getD j 0) = false → P s i (j + 1) c → P s i j c)
  (ho : ∀ s i j c,j < (K i).length → okK s ((K i).getD j 0) = true → P (s.set ((K i).getD j 0).toNat true) ((K i).getD j 0).toNat 0 (c + 1) →
   (P (dfs K (s.set ((K i).getD j 0).toNat true) ((K i).getD j 0).toNat 0 (c + 1)).2.1 i (j + 1) (dfs K (s.set ((K i).getD j 0).toNat true) ((K i).getD j 0).toNat 0 (c + 1)).2.2) → P s i j c) :
  ∀ s i j c,P s i j c := by
 refine qTQ (K := K) fun s i j c ih => ?_
 by_cases h : j < (K i).length
 ·cases hk : okK s ((K i).getD j 0) with
  | false => exact hb s i j c h hk (ih s i (j + 1) c (.inr ⟨rfl,by omega⟩))
  | true =>
   have h2 := qA9 (qBL hk).2.2
   exact ho s i j c h hk (ih _ _ _ _ (.inl (by omega))) (ih _ _ _ _ (.inl (qQH (qBL hk).2.2 (c + 1))))
 ·exact he s i j c h
def qJQ (K : Nat → List Int) : List (Nat × Nat) → List Bool → Nat → List Ev
 | [],_,_ => []
 | (i,j) :: rest,s,c => (dfs K s i j c).1 ++ qJQ K rest (dfs K s i j c).2.1 (dfs K s i j c).2.2
theorem qS6 {s : List Bool} {i j c : Nat} {rest : List (Nat × Nat)} (h : ¬ j < (K i).length) : qJQ K ((i,j) :: rest) s c = (i,0,c,true) :: qJQ K rest s (c + 1) := by
 rw [qJQ,qC2 h];rfl
theorem qUJ {s : List Bool} {i j c : Nat} {rest : List (Nat × Nat)} (h : j < (K i).length) (hk : okK s ((K i).getD j 0) = false) : qJQ K ((i,j) :: rest) s c = qJQ K ((i,j + 1) :: rest) s c := by
 rw [qJQ,qJQ,qC4 h hk]
theorem qYT {s : List Bool} {i j c : Nat} {rest : List (Nat × Nat)} (h : j < (K i).length) (hk : okK s ((K i).getD j 0) = true) :
  qJQ K ((i,j) :: rest) s c = (((K i).getD j 0).toNat,(i : Int),c,false) :: qJQ K ((((K i).getD j 0).toNat,0) :: (i,j + 1) :: rest) (s.set ((K i).getD j 0).toNat true) (c + 1) := by
 rw [qJQ,qFE h hk,qJQ,qJQ]
 simp only [List.cons_append,List.append_assoc]
def qM0 (K : Nat → List Int) (n : Nat) : List Ev := if n = 0 then [] else (0, -1,0,false) :: qJQ K [(0,0)] ((List.replicate n false).set 0 true) 1
end Go.Vc

namespace Go.Vc
open Go.Proofs
set_option autoImplicit false
def qhA (n : qAE) (k : Int) : qAE := (n.1,n.2.1,n.2.2.1,n.2.2.2.1,n.2.2.2.2.1,n.2.2.2.2.2.1,n.2.2.2.2.2.2 ++ [k])
def mkN (n : qAE) (up : Int) : qAE := (n.1,n.2.1,n.2.2.1,n.2.2.2.1,n.2.2.2.2.1,up,[])
def qDM (out : List qAE) (p : Nat) (k : Int) : List qAE := out.set p (qhA (out.getD p qAC.dflt) k)
structure PSt where
 out : List qAE
 P : List Nat
def PSt.step (t : List qAE) (x : PSt) (e : Ev) : PSt :=
 match e.2.2.2,x.P with
 | true,P => { out := x.out,P := P.tail }
 | false,[] => { out := x.out ++ [mkN (t.getD e.1 qAC.dflt) (-1)],P := [x.out.length] }
 | false,p :: P => { out := qDM x.out p x.out.length ++ [mkN (t.getD e.1 qAC.dflt) p],P := x.out.length :: p :: P }
def PSt.run (t : List qAE) : PSt → List Ev → PSt
 | x,[] => x
 | x,e :: l => PSt.run t (x.step t e) l
theorem qFY (t : List qAE) : ∀ (l l' : List Ev) (x : PSt),x.run t (l ++ l') = (x.run t l).run t l' := by
 intro l
 induction l with
 | nil => intro l' x;rfl
 | cons e l ih => intro l' x;exact ih l' (x.step t e)
def pS (t : List qAE) (K : Nat → List Int) (out : List qAE) (s : List Bool) (p i j : Nat) : List qAE := (({ out := out,P := [p] } : PSt).run t (dfs K s i j 0).1).out
def sS (K : Nat → List Int) (s : List Bool) (i j : Nat) : List Bool := (dfs K s i j 0).2.1
variable {K : Nat → List Int} {t : List qAE}
theorem qD9 (out : List qAE) (p : Nat) (k : Int) : (qDM out p k).length = out.length := by unfold qDM;exact List.length_set ..
theorem qlN : ∀ (s : List Bool) (i j c : Nat),∀ c',(dfs K s i j c).2.1 = (dfs K s i j c').2.1 ∧ ∀ x : PSt,x.run t (dfs K s i j c).1 = x.run t (dfs K s i j c').1 := by
 refine qGS (K := K) ?_ ?_ ?_
 ·intro s i j c h c';rw [qC2 h,qC2 h];exact ⟨rfl,fun x => rfl⟩
 ·intro s i j c h hk ih c';rw [qC4 h hk,qC4 h hk];exact ih c'
 ·intro s i j c h hk i1 i2 c'
  rw [qFE h hk,qFE h hk]
  dsimp only
  obtain ⟨a1,a2⟩ := i1 (c' + 1)
  rw [← a1]
  obtain ⟨b1,b2⟩ := i2 (dfs K (s.set ((K i).getD j 0).toNat true) ((K i).getD j 0).toNat 0 (c' + 1)).2.2
  refine ⟨b1,fun x => ?_⟩
  show ((x.step t _).run t _) = ((x.step t _).run t _)
  rw [qFY,qFY]
  have e : x.step t (((K i).getD j 0).toNat,(i : Int),c,false) = x.step t (((K i).getD j 0).toNat,(i : Int),c',false) := rfl
  rw [e,a2,b2]
theorem qTY : ∀ (s : List Bool) (i j c : Nat),∀ (out : List qAE) (p : Nat) (P : List Nat),
  ({ out := out,P := p :: P } : PSt).run t (dfs K s i j c).1 = { out := (({ out := out,P := [p] } : PSt).run t (dfs K s i j c).1).out,P := P } := by
 refine qGS (K := K) ?_ ?_ ?_
 ·intro s i j c h out p P;rw [qC2 h];rfl
 ·intro s i j c h hk ih out p P;rw [qC4 h hk];exact ih out p P
 ·intro s i j c h hk i1 i2 out p P
  rw [qFE h hk]
  dsimp only
  have e : ∀ Q,({ out := out,P := p :: Q } : PSt).step t (((K i).getD j 0).toNat,(i : Int),c,false) =
   { out := qDM out p out.length ++ [mkN (t.getD ((K i).getD j 0).toNat qAC.dflt) p],P := out.length :: p :: Q } := fun Q => rfl
  show PSt.run t (PSt.step t _ _) _ = { out := (PSt.run t (PSt.step t _ _) _).out,P := P }
  rw [e,e,qFY,qFY,i1 _ out.length (p :: P),i1 _ out.length [p],i2 _ p P]
theorem qb9 {out s p i j} (h : ¬ j < (K i).length) : pS t K out s p i j = out ∧ sS K s i j = s := by
 unfold pS sS;rw [qC2 h];exact ⟨rfl,rfl⟩
theorem qcE {out s p i j} (h : j < (K i).length) (hk : okK s ((K i).getD j 0) = false) : pS t K out s p i j = pS t K out s p i (j + 1) ∧ sS K s i j = sS K s i (j + 1) := by
 unfold pS sS;rw [qC4 h hk];exact ⟨rfl,rfl⟩
def qOB (t : List qAE) (K : Nat → List Int) (out : List qAE) (s : List Bool) (k : Nat) (up : Int) : List qAE := pS t K (out ++ [mkN (t.getD k qAC.dflt) up]) (s.set k true) out.length k 0
def qXD (K : Nat → List Int) (s : List Bool) (k : Nat) : List Bool := sS K (s.set k true) k 0
theorem qkU {out s p i j} (h : j < (K i).length) (hk : okK s ((K i).getD j 0) = true) :
    pS t K out s p i j = pS t K (qOB t K (qDM out p out.length) s ((K i).getD j 0).toNat p) (qXD K s ((K i).getD j 0).toNat) p i (j + 1) ∧ sS K s i j = sS K (qXD K s ((K i).getD j 0).toNat) i (j + 1) := by
  have a := fun c => qlN (t := t) (K := K) (s.set ((K i).getD j 0).toNat true) ((K i).getD j 0).toNat 0 c 0
  unfold pS sS qOB qXD pS sS
  rw [qFE h hk]
  dsimp only
  rw [(a 1).1]
  have b := fun c => qlN (t := t) (K := K) (dfs K (s.set ((K i).getD j 0).toNat true) ((K i).getD j 0).toNat 0 0).2.1 i (j + 1) c 0
  refine ⟨?_,(b _).1⟩
  show (PSt.run t (PSt.step t _ _) _).out = _
  have e : ({ out := out,P := [p] } : PSt).step t (((K i).getD j 0).toNat,(i : Int),0,false) =
      { out := qDM out p out.length ++ [mkN (t.getD ((K i).getD j 0).toNat qAC.dflt) p],P := out.length :: [p] } := rfl
  rw [e,qFY,qTY,(b _).2,(a 1).2,qD9]
theorem qj4 : ∀ (s : List Bool) (i j c : Nat),∀ (out : List qAE) (p : Nat),
  out.length ≤ (({ out := out,P := [p] } : PSt).run t (dfs K s i j c).1).out.length ∧ (({ out := out,P := [p] } : PSt).run t (dfs K s i j c).1).out.length + unseen (dfs K s i j c).2.1 = out.length + unseen s ∧
   (∀ q,q < out.length → q ≠ p → (({ out := out,P := [p] } : PSt).run t (dfs K s i j c).1).out.getD q qAC.dflt = out.getD q qAC.dflt) ∧ (dfs K s i j c).2.1.length = s.length := by
 refine qGS (K := K) ?_ ?_ ?_
 ·intro s i j c h out p;rw [qC2 h];exact ⟨Nat.le_refl _,rfl,fun q _ _ => rfl,rfl⟩
 ·intro s i j c h hk ih out p;rw [qC4 h hk];exact ih out p
 ·intro s i j c h hk i1 i2 out p
  rw [qFE h hk]
  dsimp only
  have e : ({ out := out,P := [p] } : PSt).step t (((K i).getD j 0).toNat,(i : Int),c,false) =
   { out := qDM out p out.length ++ [mkN (t.getD ((K i).getD j 0).toNat qAC.dflt) p],P := out.length :: [p] } := rfl
  have er : ∀ l,({ out := out,P := [p] } : PSt).run t ((((K i).getD j 0).toNat,(i : Int),c,false) :: l) =
   ({ out := qDM out p out.length ++ [mkN (t.getD ((K i).getD j 0).toNat qAC.dflt) p],P := out.length :: [p] } : PSt).run t l := fun l => by rw [← e];rfl
  have er2 : ∀ l1 l2 c1,l1 = (dfs K (s.set ((K i).getD j 0).toNat true) ((K i).getD j 0).toNat 0 c1).1 → (({ out := out,P := [p] } : PSt).run t ((((K i).getD j 0).toNat,(i : Int),c,false) :: (l1 ++ l2))).out =
   (({ out := (({ out := qDM out p out.length ++ [mkN (t.getD ((K i).getD j 0).toNat qAC.dflt) p],P := [out.length] } : PSt).run t l1).out,P := [p] } : PSt).run t l2).out := fun l1 l2 c1 hl => by
   rw [er,qFY,hl,qTY]
  rw [er2 _ _ _ rfl]
  have hl : (qDM out p out.length ++ [mkN (t.getD ((K i).getD j 0).toNat qAC.dflt) p]).length = out.length + 1 := by rw [List.length_append,qD9];rfl
  have hu := qA9 (qBL hk).2.2
  obtain ⟨a1,a2,a3,a4⟩ := i1 (qDM out p out.length ++ [mkN (t.getD ((K i).getD j 0).toNat qAC.dflt) p]) out.length
  rw [hl] at a1 a2 a3
  generalize (({ out := qDM out p out.length ++ [mkN (t.getD ((K i).getD j 0).toNat qAC.dflt) p],P := [out.length] } : PSt).run t (dfs K (s.set ((K i).getD j 0).toNat true) ((K i).getD j 0).toNat 0 (c + 1)).1).out = y at *
  obtain ⟨b1,b2,b3,b4⟩ := i2 y p
  refine ⟨by omega,by omega,fun q hq hp => ?_,?_⟩
  ·rw [b3 q (by omega) hp,a3 q (by omega) (by omega)]
   unfold qDM
   rw [List.getD_eq_getElem?_getD,List.getElem?_append_left (by rw [List.length_set];exact hq),List.getElem?_set,if_neg (fun h => hp h.symm),List.getD_eq_getElem?_getD]
  ·rw [b4,a4,List.length_set]
theorem qNC (out : List qAE) (s : List Bool) (k : Nat) (up : Int) : out.length + 1 ≤ (qOB t K out s k up).length ∧ (qOB t K out s k up).length + unseen (qXD K s k) = out.length + 1 + unseen (s.set k true) ∧
  (∀ q,q < out.length → (qOB t K out s k up).getD q qAC.dflt = out.getD q qAC.dflt) ∧ (qXD K s k).length = s.length := by
 obtain ⟨h1,h2,h3,h4⟩ := qj4 (t := t) (K := K) (s.set k true) k 0 0 (out ++ [mkN (t.getD k qAC.dflt) up]) out.length
 rw [List.length_append,List.length_singleton] at h1 h2 h3
 refine ⟨h1,h2,fun q hq => ?_,by rw [List.length_set] at h4;exact h4⟩
 show (PSt.run t _ _).out.getD q _ = _
 rw [h3 q (by omega) (by omega),List.getD_eq_getElem?_getD,List.getElem?_append_left hq,List.getD_eq_getElem?_getD]
end Go.Vc

namespace Go.Vc
set_option autoImplicit false
structure St where
 L : List Nat
 P : List Nat
 I : List Int
 O : List Int
 m : Nat
def St.step (x : St) (e : Ev) : St :=
 if e.2.2.2 = true then { x with P := x.P.dropLast,O := x.O.set e.1 (x.m : Int),m := x.m + 1 }
 else { x with L := x.L ++ [e.1],P := x.P ++ [e.1],I := x.I.set e.1 (x.m : Int),m := x.m + 1 }
structure Good (n : Nat) (x : St) : Prop where
 lI : x.I.length = n
 lO : x.O.length = n
 lt : ∀ u ∈ x.L,u < n
 nod : x.L.Nodup
 out : ∀ u,u ∉ x.L → x.I.getD u (-1) = -1 ∧ x.O.getD u (-1) = -1
 rI : ∀ u ∈ x.L,0 ≤ x.I.getD u (-1) ∧ x.I.getD u (-1) < x.m
 rO : ∀ u ∈ x.L,x.O.getD u (-1) = -1 ∨ (x.I.getD u (-1) < x.O.getD u (-1) ∧ x.O.getD u (-1) < x.m)
 srt : x.L.Pairwise fun a b => x.I.getD a (-1) < x.I.getD b (-1)
 stk : x.P = x.L.filter fun u => x.O.getD u (-1) == -1
 nest : ∀ u ∈ x.L,∀ v ∈ x.L,x.I.getD u (-1) < x.I.getD v (-1) → x.O.getD u (-1) = -1 ∨ x.O.getD u (-1) < x.I.getD v (-1) ∨ (x.O.getD v (-1) ≠ -1 ∧ x.O.getD v (-1) < x.O.getD u (-1))
 dis : ∀ u ∈ x.L,∀ v ∈ x.L,x.O.getD u (-1) ≠ -1 → x.O.getD u (-1) ≠ x.I.getD v (-1) ∧ (x.O.getD v (-1) = x.O.getD u (-1) → u = v)
 cnt : x.m + x.P.length = 2 * x.L.length
def qe9 (n : Nat) (x : St) (e : Ev) : Prop :=
 e.2.2.1 = x.m ∧ (if e.2.2.2 = true then x.P.getLast? = some e.1 else e.1 < n ∧ e.1 ∉ x.L)
theorem qAZ {α : Type} (l : List α) (i j : Nat) (a d : α) : (l.set i a).getD j d = if i = j ∧ i < l.length then a else l.getD j d := by
 rw [List.getD_eq_getElem?_getD,List.getElem?_set]
 by_cases h : i = j
 ·subst h
  by_cases hl : i < l.length
  ·simp [hl]
  ·simp [hl,List.getD_eq_getElem?_getD,List.getElem?_eq_none (Nat.le_of_not_lt hl)]
 ·simp [h,List.getD_eq_getElem?_getD]
theorem Good.into {n : Nat} {x : St} (g : Good n x) {v : Nat} (hv : v < n) (hn : v ∉ x.L) :
  Good n { x with L := x.L ++ [v],P := x.P ++ [v],I := x.I.set v (x.m : Int),m := x.m + 1 } := by
 have hI : ∀ u,(x.I.set v (x.m : Int)).getD u (-1) = if v = u then (x.m : Int) else x.I.getD u (-1) := by
  intro u
  rw [qAZ]
  by_cases h : v = u
  ·rw [if_pos h,if_pos ⟨h,by rw [g.lI];exact hv⟩]
  ·rw [if_neg h,if_neg (fun q => h q.1)]
 have ho := g.out v hn
 have hne : ∀ u ∈ x.L,v ≠ u := fun u hu e => hn (e ▸ hu)
 refine ⟨by simp [g.lI],g.lO,?_,?_,?_,?_,?_,?_,?_,?_,?_,?_⟩ <;> dsimp only
 ·intro u hu
  rcases List.mem_append.1 hu with h | h
  ·exact g.lt u h
  ·simp at h;subst h;exact hv
 ·rw [List.nodup_append]
  refine ⟨g.nod,by simp,?_⟩
  intro a ha b hb e
  simp at hb
  subst hb;subst e
  exact hn ha
 ·intro u hu
  simp only [List.mem_append,List.mem_singleton,not_or] at hu
  rw [hI,if_neg (fun e => hu.2 e.symm)]
  exact g.out u hu.1
 ·intro u hu
  rw [hI]
  rcases List.mem_append.1 hu with h | h
  ·rw [if_neg (hne u h)]
   have := g.rI u h
   omega
  ·simp at h;subst h;rw [if_pos rfl];omega
 ·intro u hu
  rw [hI]
  rcases List.mem_append.1 hu with h | h
  ·rw [if_neg (hne u h)]
   have := g.rO u h
   omega
  ·simp at h;subst h;exact .inl ho.2
 ·rw [List.pairwise_append]
  refine ⟨?_,by simp,?_⟩
  ·refine g.srt.imp_of_mem ?_
   intro a b ha hb h
   rw [hI,hI,if_neg (hne a ha),if_neg (hne b hb)]
   exact h
  ·intro a ha b hb
   simp at hb;subst hb
   rw [hI,hI,if_neg (hne a ha),if_pos rfl]
   exact (g.rI a ha).2
 ·rw [List.filter_append, ← g.stk]
  simp only [List.filter_cons,List.filter_nil,ho.2]
  rfl
 ·intro u hu w hw
  rw [hI,hI]
  rcases List.mem_append.1 hu with h | h
  ·rw [if_neg (hne u h)]
   rcases List.mem_append.1 hw with k | k
   ·rw [if_neg (hne w k)];exact g.nest u h w k
   ·simp at k;subst k
    rw [if_pos rfl]
    intro _
    have := g.rO u h
    omega
  ·simp at h;subst h
   rw [if_pos rfl]
   exact fun _ => .inl ho.2
 ·intro u hu w hw hq
  rw [hI]
  rcases List.mem_append.1 hu with h | h
  ·rcases List.mem_append.1 hw with k | k
   ·rw [if_neg (hne w k)];exact g.dis u h w k hq
   ·simp at k;subst k
    rw [if_pos rfl]
    have := g.rO u h
    refine ⟨by omega,fun e => ?_⟩
    rw [ho.2] at e
    exact absurd e.symm hq
  ·simp at h;subst h
   exact absurd ho.2 hq
 ·have := g.cnt
  simp only [List.length_append,List.length_cons,List.length_nil]
  omega
theorem qRU {α : Type} [BEq α] [LawfulBEq α] {l : List α} (hn : l.Nodup) {p q : α → Bool} {v : α} (hv : (l.filter p).getLast? = some v)
  (hq : ∀ u,q u = (p u && !(u == v))) : l.filter q = (l.filter p).dropLast := by
 have e : l.filter q = (l.filter p).filter fun u => !(u == v) := by
  rw [List.filter_filter]
  exact List.filter_congr fun u _ => by rw [hq u,Bool.and_comm]
 rw [e]
 have hnp := hn.filter p
 generalize l.filter p = m at *
 rcases List.eq_nil_or_concat m with rfl | ⟨r,a,rfl⟩
 ·simp at hv
 ·rw [List.concat_eq_append] at *
  simp at hv
  subst hv
  rw [List.pairwise_append] at hnp
  simp only [List.filter_append,List.filter_cons,List.filter_nil,beq_self_eq_true,Bool.not_true,Bool.false_eq_true,if_false,List.append_nil,List.dropLast_concat]
  rw [List.filter_eq_self]
  intro u hu
  have := hnp.2.2 u hu a (by simp)
  simpa using this
theorem Good.leave {n : Nat} {x : St} (g : Good n x) {v : Nat} (hl : x.P.getLast? = some v) :
  Good n { x with P := x.P.dropLast,O := x.O.set v (x.m : Int),m := x.m + 1 } := by
 have hvP : v ∈ x.P := List.mem_of_getLast? hl
 have hvP' := hvP
 rw [g.stk,List.mem_filter] at hvP'
 have hvL := hvP'.1
 have hvO : x.O.getD v (-1) = -1 := by simpa using hvP'.2
 have hvn := g.lt v hvL
 have hO : ∀ u,(x.O.set v (x.m : Int)).getD u (-1) = if v = u then (x.m : Int) else x.O.getD u (-1) := by
  intro u
  rw [qAZ]
  by_cases h : v = u
  ·rw [if_pos h,if_pos ⟨h,by rw [g.lO];exact hvn⟩]
  ·rw [if_neg h,if_neg (fun q => h q.1)]
 have hlast : ∀ w ∈ x.L,x.I.getD v (-1) < x.I.getD w (-1) → x.O.getD w (-1) ≠ -1 := by
  intro w hw hlt ho
  have hwP : w ∈ x.P := by rw [g.stk,List.mem_filter];exact ⟨hw,by simpa using ho⟩
  have hs : x.P.Pairwise fun a b => x.I.getD a (-1) < x.I.getD b (-1) := by rw [g.stk];exact g.srt.filter _
  rcases List.eq_nil_or_concat x.P with he | ⟨r,a,he⟩
  ·rw [he] at hl;cases hl
  ·rw [List.concat_eq_append] at he
   rw [he] at hl hwP hs
   simp at hl
   subst hl
   rw [List.pairwise_append] at hs
   rcases List.mem_append.1 hwP with h | h
   ·have := hs.2.2 w h a (by simp);omega
   ·simp at h;subst h;omega
 refine ⟨g.lI,by simp [g.lO],g.lt,g.nod,?_,?_,?_,g.srt,?_,?_,?_,?_⟩ <;> dsimp only
 ·intro u hu
  rw [hO,if_neg (fun e : v = u => hu (e ▸ hvL))]
  exact g.out u hu
 ·intro u hu
  have := g.rI u hu
  omega
 ·intro u hu
  rw [hO]
  have h1 := g.rI u hu
  have h2 := g.rO u hu
  split <;> omega
 ·rw [g.stk] at hl
  rw [g.stk]
  refine (qRU g.nod hl fun u => ?_).symm
  rw [hO]
  by_cases h : v = u
  ·subst h;rw [if_pos rfl]
   have : ((x.m : Int) == -1) = false := beq_eq_false_iff_ne.mpr (by omega)
   rw [this];simp
  ·rw [if_neg h,show (u == v) = false from beq_eq_false_iff_ne.mpr (fun e => h e.symm)];simp
 ·intro u hu w hw hlt
  rw [hO,hO]
  have h0 := g.nest u hu w hw hlt
  have hru := g.rO u hu
  by_cases h : v = u
  ·subst h
   rw [if_pos rfl]
   have hwo := hlast w hw hlt
   have hrw := g.rO w hw
   rw [if_neg (by rintro rfl;omega)]
   omega
  ·rw [if_neg h]
   by_cases h' : v = w
   ·subst h'
    rw [if_pos rfl]
    omega
   ·rw [if_neg h'];exact h0
 ·intro u hu w hw hq
  rw [hO] at hq ⊢
  rw [hO]
  have hru := g.rO u hu
  have hrw := g.rO w hw
  have hiw := g.rI w hw
  by_cases h : v = u
  ·subst h
   rw [if_pos rfl] at hq ⊢
   refine ⟨by omega,fun e => ?_⟩
   by_cases h' : v = w
   ·exact h'
   ·rw [if_neg h'] at e;omega
  ·rw [if_neg h] at hq ⊢
   have h0 := g.dis u hu w hw hq
   refine ⟨h0.1,fun e => ?_⟩
   by_cases h' : v = w
   ·rw [if_pos h'] at e;omega
   ·rw [if_neg h'] at e;exact h0.2 e
 ·have := g.cnt
  have hp : 0 < x.P.length := List.length_pos_of_mem hvP
  simp only [List.length_dropLast]
  omega
theorem Good.step {n : Nat} {x : St} (g : Good n x) {e : Ev} (h : qe9 n x e) : Good n (x.step e) := by
 obtain ⟨h1,h2⟩ := h
 unfold St.step
 split
 ·rename_i hl
  rw [if_pos hl] at h2
  exact g.leave h2
 ·rename_i hl
  rw [if_neg hl] at h2
  exact g.into h2.1 h2.2
def qH5 (n : Nat) : St → List Ev → Prop
 | _,[] => True
 | x,e :: r => qe9 n x e ∧ qH5 n (x.step e) r
def St.run (x : St) (l : List Ev) : St := l.foldl St.step x
theorem qXS {n : Nat} : ∀ {x : St} {a b : List Ev},qH5 n x a → qH5 n (x.run a) b → qH5 n x (a ++ b) := by
 intro x a
 induction a generalizing x with
 | nil => intro b _ h;exact h
 | cons e a ih => intro b h1 h2;exact ⟨h1.1,ih h1.2 h2⟩
theorem qIJ (x : St) (a b : List Ev) : x.run (a ++ b) = (x.run a).run b := by unfold St.run;rw [List.foldl_append]
theorem Good.run {n : Nat} : ∀ {l : List Ev} {x : St},Good n x → qH5 n x l → Good n (x.run l) := by
 intro l
 induction l with
 | nil => intro x g _;exact g
 | cons e l ih => intro x g h;exact ih (g.step h.1) h.2
def Seen (s : List Bool) (x : St) : Prop := ∀ u,u < s.length → (s.getD u true = true ↔ u ∈ x.L)
theorem qdZ {K : Nat → List Int} : ∀ (s : List Bool) (i j c : Nat),(dfs K s i j c).2.1.length = s.length := by
 refine qGS (K := K) ?_ ?_ ?_
 ·intro s i j c h;rw [qC2 h]
 ·intro s i j c h hk ih;rw [qC4 h hk];exact ih
 ·intro s i j c h hk i1 i2;rw [qFE h hk];dsimp only;rw [i2,i1,List.length_set]
theorem qa5 {K : Nat → List Int} (n : Nat) : ∀ (s : List Bool) (i j c : Nat) (x : St) (P0 : List Nat),s.length = n → Seen s x → x.P = P0 ++ [i] → x.m = c →
  qH5 n x (dfs K s i j c).1 ∧ (x.run (dfs K s i j c).1).P = P0 ∧ (x.run (dfs K s i j c).1).m = (dfs K s i j c).2.2 ∧ Seen (dfs K s i j c).2.1 (x.run (dfs K s i j c).1) := by
 refine qGS (K := K) ?_ ?_ ?_
 ·intro s i j c h x P0 hs hx hP hm
  rw [qC2 h]
  have e : x.run [(i,0,c,true)] = { x with P := x.P.dropLast,O := x.O.set i (x.m : Int),m := x.m + 1 } := rfl
  refine ⟨⟨⟨hm.symm,?_⟩,trivial⟩,?_,?_,?_⟩
  ·rw [if_pos rfl,hP];simp
  ·rw [e];dsimp only;rw [hP];simp
  ·rw [e];dsimp only;rw [hm]
  ·rw [e];exact hx
 ·intro s i j c h hk ih
  rw [qC4 h hk];exact ih
 ·intro s i j c h hk i1 i2 x P0 hs hx hP hm
  have hok := qBL hk
  rw [qFE h hk]
  dsimp only
  generalize hkk : ((K i).getD j 0).toNat = k at *
  have hkn : k < n := by rw [← hs];exact hok.2.1
  have hkL : k ∉ x.L := by
   intro q
   have := (hx k (by omega)).2 q
   rw [List.getD_eq_getElem?_getD,hok.2.2] at this
   cases this
  have e0 : x.step (k,(i : Int),c,false) = { x with L := x.L ++ [k],P := x.P ++ [k],I := x.I.set k (x.m : Int),m := x.m + 1 } := rfl
  have hx1 : Seen (s.set k true) (x.step (k,(i : Int),c,false)) := by
   intro u hu
   rw [List.length_set] at hu
   rw [qAZ,e0]
   dsimp only
   rw [List.mem_append,List.mem_singleton]
   by_cases q : k = u
   ·rw [if_pos ⟨q,by omega⟩];simp [q]
   ·rw [if_neg (fun z => q z.1),hx u hu]
    constructor
    ·exact .inl
    ·rintro (z | z)
     ·exact z
     ·exact absurd z.symm q
  obtain ⟨a1,a2,a3,a4⟩ := i1 (x.step (k,(i : Int),c,false)) x.P (by rw [List.length_set];exact hs) hx1 (by rw [e0]) (by rw [e0];dsimp only;rw [hm])
  generalize hr1 : dfs K (s.set k true) k 0 (c + 1) = r1 at *
  have hl1 : r1.2.1.length = n := by rw [← hr1,qdZ,List.length_set,hs]
  obtain ⟨b1,b2,b3,b4⟩ := i2 ((x.step (k,(i : Int),c,false)).run r1.1) P0 hl1 a4 (by rw [a2,hP]) a3
  refine ⟨⟨⟨hm.symm,?_⟩,qXS a1 b1⟩,?_,?_,?_⟩
  ·rw [if_neg (by simp)];exact ⟨hkn,hkL⟩
  ·show ((x.step _).run (r1.1 ++ _)).P = P0;rw [qIJ];exact b2
  ·show ((x.step _).run (r1.1 ++ _)).m = _;rw [qIJ];exact b3
  ·show Seen _ ((x.step _).run (r1.1 ++ _));rw [qIJ];exact b4
def st0 (n : Nat) : St := { L := [],P := [],I := List.replicate n (-1),O := List.replicate n (-1),m := 0 }
theorem qK1 {α : Type} (n : Nat) (a : α) (u : Nat) : (List.replicate n a).getD u a = a := by
 rw [List.getD_eq_getElem?_getD,List.getElem?_replicate]
 split <;> rfl
theorem qeL (n : Nat) : Good n (st0 n) := by
 refine ⟨by simp [st0],by simp [st0],by simp [st0],by simp [st0],?_,by simp [st0],by simp [st0],by simp [st0],by simp [st0],by simp [st0],by simp [st0],by simp [st0]⟩
 intro u _
 exact ⟨qK1 n _ u,qK1 n _ u⟩
theorem qP8 (K : Nat → List Int) (n : Nat) : qH5 n (st0 n) (qM0 K n) ∧ ((st0 n).run (qM0 K n)).P = [] := by
 unfold qM0
 split
 ·exact ⟨trivial,rfl⟩
 ·rename_i hn
  have hn : 0 < n := by omega
  have hseen : Seen ((List.replicate n false).set 0 true) ((st0 n).step (0, -1,0,false)) := by
   intro u hu
   rw [List.length_set,List.length_replicate] at hu
   rw [qAZ]
   show _ ↔ u ∈ [0]
   rw [List.mem_singleton,List.length_replicate]
   by_cases q : 0 = u
   ·rw [if_pos ⟨q,hn⟩];simp [q]
   ·rw [if_neg (fun z => q z.1),List.getD_eq_getElem?_getD,List.getElem?_replicate,if_pos hu]
    constructor
    ·intro z;cases z
    ·intro z;exact absurd z.symm q
  obtain ⟨a1,a2,a3,a4⟩ := qa5 (K := K) n ((List.replicate n false).set 0 true) 0 0 1 ((st0 n).step (0, -1,0,false)) [] (by simp) hseen rfl rfl
  have e : qJQ K [(0,0)] ((List.replicate n false).set 0 true) 1 = (dfs K ((List.replicate n false).set 0 true) 0 0 1).1 := by
   rw [qJQ,qJQ,List.append_nil]
  rw [e]
  exact ⟨⟨⟨rfl,by rw [if_neg (by decide)];exact ⟨hn,by simp [st0]⟩⟩,a1⟩,a2⟩
end Go.Vc

namespace Go.Vc
set_option autoImplicit false
structure Mono (x y : St) : Prop where
 L : ∃ l,y.L = x.L ++ l ∧ ∀ u ∈ l,(x.m : Int) ≤ y.I.getD u (-1)
 I : ∀ u ∈ x.L,y.I.getD u (-1) = x.I.getD u (-1)
 O : ∀ u ∈ x.L,x.O.getD u (-1) ≠ -1 → y.O.getD u (-1) = x.O.getD u (-1)
 O' : ∀ u ∈ x.L,x.O.getD u (-1) = -1 → y.O.getD u (-1) = -1 ∨ (x.m : Int) ≤ y.O.getD u (-1)
 m : x.m ≤ y.m
theorem Mono.refl (x : St) : Mono x x := ⟨⟨[],by simp,by simp⟩,fun _ _ => rfl,fun _ _ _ => rfl,fun _ _ h => .inl h,Nat.le_refl _⟩
theorem Mono.step {n : Nat} {x : St} (g : Good n x) {e : Ev} (h : qe9 n x e) : Mono x (x.step e) := by
 obtain ⟨h1,h2⟩ := h
 unfold St.step
 split
 ·rename_i hl
  rw [if_pos hl] at h2
  have hP : e.1 ∈ x.P := List.mem_of_getLast? h2
  rw [g.stk,List.mem_filter] at hP
  have hO : x.O.getD e.1 (-1) = -1 := by simpa using hP.2
  have hn := g.lt _ hP.1
  refine ⟨⟨[],by simp,by simp⟩,fun _ _ => rfl,?_,?_,Nat.le_succ _⟩ <;> dsimp only
  ·intro u hu hq
   rw [qAZ]
   by_cases q : e.1 = u
   ·subst q;exact absurd hO hq
   ·rw [if_neg (fun z => q z.1)]
  ·intro u hu hq
   rw [qAZ]
   by_cases q : e.1 = u
   ·rw [if_pos ⟨q,by rw [g.lO];exact hn⟩];right;omega
   ·rw [if_neg (fun z => q z.1)];exact .inl hq
 ·rename_i hl
  rw [if_neg hl] at h2
  have hI : ∀ u,(x.I.set e.1 (x.m : Int)).getD u (-1) = if e.1 = u then (x.m : Int) else x.I.getD u (-1) := by
   intro u
   rw [qAZ]
   by_cases q : e.1 = u
   ·rw [if_pos q,if_pos ⟨q,by rw [g.lI];exact h2.1⟩]
   ·rw [if_neg q,if_neg (fun z => q z.1)]
  refine ⟨⟨[e.1],rfl,?_⟩,?_,fun _ _ _ => rfl,fun _ _ h => .inl h,Nat.le_succ _⟩ <;> dsimp only
  ·intro u hu
   simp at hu
   rw [hI,if_pos hu.symm];omega
  ·intro u hu
   rw [hI,if_neg (fun q : e.1 = u => h2.2 (q ▸ hu))]
theorem Mono.trans {x y z : St} (a : Mono x y) (b : Mono y z) : Mono x z := by
 obtain ⟨l,e1,h1⟩ := a.L
 obtain ⟨l',e2,h2⟩ := b.L
 have sub : ∀ u ∈ x.L,u ∈ y.L := fun u hu => by rw [e1];exact List.mem_append_left _ hu
 have hm := a.m
 refine ⟨⟨l ++ l',by rw [e2,e1,List.append_assoc],?_⟩,?_,?_,?_,Nat.le_trans a.m b.m⟩
 ·intro u hu
  rcases List.mem_append.1 hu with h | h
  ·rw [b.I u (by rw [e1];exact List.mem_append_right _ h)];exact h1 u h
  ·have := h2 u h;omega
 ·intro u hu;rw [b.I u (sub u hu),a.I u hu]
 ·intro u hu h
  have := a.O u hu h
  rw [b.O u (sub u hu) (by rw [this];exact h),this]
 ·intro u hu h
  rcases a.O' u hu h with q | q
  ·rcases b.O' u (sub u hu) q with r | r
   ·exact .inl r
   ·right;omega
  ·by_cases r : y.O.getD u (-1) = -1
   ·omega
   ·rw [b.O u (sub u hu) r];exact .inr q
theorem Mono.run {n : Nat} : ∀ {l : List Ev} {x : St},Good n x → qH5 n x l → Mono x (x.run l) := by
 intro l
 induction l with
 | nil => intro x _ _;exact Mono.refl x
 | cons e l ih => intro x g h;exact (Mono.step g h.1).trans (ih (g.step h.1) h.2)
structure Done (n : Nat) (y : St) : Prop extends Good n y where
 P0 : y.P = []
theorem Done.o {n : Nat} {y : St} (g : Done n y) {u : Nat} (hu : u ∈ y.L) : y.O.getD u (-1) ≠ -1 := by
 intro h
 have : u ∈ y.P := by rw [g.stk,List.mem_filter];exact ⟨hu,by simpa using h⟩
 rw [g.P0] at this;cases this
def qRN (y : St) (v : Nat) : List Nat := y.L.filter fun u => decide (y.I.getD u (-1) < y.I.getD v (-1)) && decide (y.O.getD v (-1) < y.O.getD u (-1))
def qM7 (v : Int) : List Ev → List Nat → Option (List Nat)
 | [],_ => none
 | e :: r,P => if e.2.2.2 = true then qM7 v r P.dropLast else if (e.1 : Int) = v then some P else qM7 v r (P ++ [e.1])
theorem qeB {n : Nat} {x : St} (g : Good n x) {v : Nat} (hv : v < n) (hn : v ∉ x.L) {r : List Ev} {c : Nat} {up : Int} (h : qH5 n (x.step (v,up,c,false)) r) (d : Done n ((x.step (v,up,c,false)).run r)) :
  x.P = qRN ((x.step (v,up,c,false)).run r) v ∧ v ∈ ((x.step (v,up,c,false)).run r).L := by
 have e0 : x.step (v,up,c,false) = { x with L := x.L ++ [v],P := x.P ++ [v],I := x.I.set v (x.m : Int),m := x.m + 1 } := rfl
 have g' : Good n (x.step (v,up,c,false)) := by rw [e0];exact g.into hv hn
 have mo := Mono.run g' h
 generalize (x.step (v,up,c,false)).run r = y at *
 have hvL : v ∈ (x.step (v,up,c,false)).L := by rw [e0];simp
 obtain ⟨l,el,hl⟩ := mo.L
 have hIv : y.I.getD v (-1) = x.m := by
  rw [mo.I v hvL,e0]
  dsimp only
  rw [qAZ,if_pos ⟨rfl,by rw [g.lI];exact hv⟩]
 have hvy : v ∈ y.L := by rw [el];exact List.mem_append_left _ hvL
 have hOv := d.rO v hvy
 have hOv' := d.o hvy
 refine ⟨?_,hvy⟩
 unfold qRN
 rw [el,e0]
 dsimp only
 rw [List.filter_append,List.filter_append,g.stk]
 have hx : ∀ u ∈ x.L,v ≠ u := fun u hu q => hn (q ▸ hu)
 have e1 : List.filter (fun u => decide (y.I.getD u (-1) < y.I.getD v (-1)) && decide (y.O.getD v (-1) < y.O.getD u (-1))) [v] = [] := by
  simp
 have e2 : List.filter (fun u => decide (y.I.getD u (-1) < y.I.getD v (-1)) && decide (y.O.getD v (-1) < y.O.getD u (-1))) l = [] := by
  rw [List.filter_eq_nil_iff]
  intro u hu
  have := hl u hu
  rw [e0] at this
  dsimp only at this
  simp only [Bool.and_eq_true,decide_eq_true_eq,not_and]
  intro q;omega
 rw [e1,e2,List.append_nil,List.append_nil]
 refine List.filter_congr fun u hu => ?_
 have hu' : u ∈ (x.step (v,up,c,false)).L := by rw [e0];exact List.mem_append_left _ hu
 have huy : u ∈ y.L := by rw [el];exact List.mem_append_left _ hu'
 have hIu : y.I.getD u (-1) = x.I.getD u (-1) := by
  rw [mo.I u hu',e0]
  dsimp only
  rw [qAZ,if_neg (fun z => hx u hu z.1)]
 have hrI := g.rI u hu
 have hxO : (x.step (v,up,c,false)).O.getD u (-1) = x.O.getD u (-1) := by rw [e0]
 rw [hIu,hIv,decide_eq_true hrI.2,Bool.true_and]
 by_cases q : x.O.getD u (-1) = -1
 ·rw [q]
  have hm : (x.step (v,up,c,false)).m = x.m + 1 := rfl
  rcases mo.O' u hu' (by rw [hxO];exact q) with z | z
  ·exact absurd z (d.o huy)
  ·rw [hm] at z
   have := d.nest u huy v hvy (by rw [hIu,hIv];exact hrI.2)
   have k : y.O.getD v (-1) < y.O.getD u (-1) := by
    rcases this with t | t | t
    ·exact absurd t (d.o huy)
    ·omega
    ·exact t.2
   rw [decide_eq_true k];rfl
 ·have z := mo.O u hu' (by rw [hxO];exact q)
  rw [hxO] at z
  have hrO := g.rO u hu
  rw [beq_eq_false_iff_ne.mpr q,z]
  symm
  rw [decide_eq_false_iff_not]
  omega
theorem qbM {n : Nat} (v : Nat) : ∀ {r : List Ev} {x : St},Good n x → v ∉ x.L → qH5 n x r → Done n (x.run r) →
  qM7 v r x.P = if v ∈ (x.run r).L then some (qRN (x.run r) v) else none := by
 intro r
 induction r with
 | nil => intro x g hv _ _;rw [if_neg (by exact hv)];rfl
 | cons e r ih =>
  intro x g hv h d
  obtain ⟨ev,eu,ec,el⟩ := e
  have h1 := h.1
  have hr : x.run ((ev,eu,ec,el) :: r) = (x.step (ev,eu,ec,el)).run r := rfl
  rw [hr] at d ⊢
  unfold qM7
  cases el with
  | true =>
   rw [if_pos rfl]
   have e0 : x.step (ev,eu,ec,true) = { x with P := x.P.dropLast,O := x.O.set ev (x.m : Int),m := x.m + 1 } := rfl
   have := ih (x := x.step (ev,eu,ec,true)) (g.step h1) (by rw [e0];exact hv) h.2 d
   rw [← this,e0]
  | false =>
   rw [if_neg (by simp)]
   have h2 := h1.2
   rw [if_neg (by simp)] at h2
   have e0 : x.step (ev,eu,ec,false) = { x with L := x.L ++ [ev],P := x.P ++ [ev],I := x.I.set ev (x.m : Int),m := x.m + 1 } := rfl
   dsimp only at h2 ⊢
   by_cases q : ev = v
   ·subst q
    rw [if_pos rfl]
    have := qeB g h2.1 h2.2 h.2 d
    rw [if_pos this.2,this.1]
   ·rw [if_neg (by omega)]
    have := ih (x := x.step (ev,eu,ec,false)) (g.step h1) (by rw [e0];simp [hv];exact fun z => q z.symm) h.2 d
    rw [← this,e0]
theorem qU5 {v : Int} : ∀ {r : List Ev} {P : List Nat},(∀ e ∈ r,e.2.2.2 = false → (e.1 : Int) ≠ v) → qM7 v r P = none := by
 intro r
 induction r with
 | nil => intro P _;rfl
 | cons e r ih =>
  intro P h
  unfold qM7
  split
  ·exact ih fun e he => h e (List.mem_cons_of_mem _ he)
  ·rename_i hl
   rw [if_neg (h e List.mem_cons_self (by simpa using hl))]
   exact ih fun e he => h e (List.mem_cons_of_mem _ he)
def qe3 (D : Int) (S : Nat → Prop) (f : Nat → Int) : Prop := 0 ≤ D ∧ (∀ v,S v → f v ≤ D) ∧ (D = 0 ∨ ∃ v,S v ∧ D = f v)
theorem qe3.uniq {D D' : Int} {S : Nat → Prop} {f : Nat → Int} (h : qe3 D S f) (h' : qe3 D' S f) (hf : ∀ v,S v → 0 ≤ f v) : D = D' := by
 obtain ⟨a0,a1,a2⟩ := h
 obtain ⟨b0,b1,b2⟩ := h'
 rcases a2 with rfl | ⟨v,hv,rfl⟩
 ·rcases b2 with rfl | ⟨w,hw,rfl⟩
  ·rfl
  ·have := a1 w hw;omega
 ·have := b1 v hv
  rcases b2 with rfl | ⟨w,hw,rfl⟩
  ·have := hf v hv;omega
  ·have := a1 w hw;omega
def qQZ (K : Nat → List Int) (n : Nat) : St := (st0 n).run (qM0 K n)
theorem qHQ (K : Nat → List Int) (n : Nat) : Done n (qQZ K n) := ⟨(qeL n).run (qP8 K n).1,(qP8 K n).2⟩
theorem qaL (K : Nat → List Int) (n v : Nat) : qM7 v (qM0 K n) [] = if v ∈ (qQZ K n).L then some (qRN (qQZ K n) v) else none :=
 qbM v (qeL n) (by simp [st0]) (qP8 K n).1 (qHQ K n)
theorem qg6 : ∀ (l : List Ev) (x : St),(x.run l).m = x.m + l.length := by
 intro l
 induction l with
 | nil => intro x;rfl
 | cons e l ih =>
  intro x
  show ((x.step e).run l).m = _
  rw [ih]
  have : (x.step e).m = x.m + 1 := by unfold St.step;split <;> rfl
  rw [this,List.length_cons];omega
theorem qX6 {α : Type} (p : α → Bool) (l : List α) : l.length = (l.filter p).length + (l.filter fun u => !p u).length := by
 induction l with
 | nil => rfl
 | cons a l ih =>
  rw [List.filter_cons,List.filter_cons]
  cases p a <;> simp <;> omega
theorem qEX {n : Nat} : ∀ {l : List Nat},l.Nodup → (∀ u ∈ l,u < n) → l.length ≤ n := by
 induction n with
 | zero =>
  intro l _ h
  cases l with
  | nil => exact Nat.le_refl _
  | cons a l => exact absurd (h a List.mem_cons_self) (by omega)
 | succ n ih =>
  intro l hn h
  have h1 := ih (l := l.filter fun u => !(u == n)) (hn.filter _) (fun u hu => by
   rw [List.mem_filter] at hu
   have := h u hu.1
   have h2 : ¬ u = n := by simpa using hu.2
   omega)
  have h2 : l.length ≤ (l.filter fun u => !(u == n)).length + 1 := by
   have e := qX6 (fun u => u == n) l
   have h3 : (l.filter fun u => u == n).length ≤ 1 := by
    rw [← List.countP_eq_length_filter]
    exact List.nodup_iff_count.1 hn n
   omega
  omega
theorem qQ8 (K : Nat → List Int) (n : Nat) : (qM0 K n).length = 2 * (qQZ K n).L.length ∧ (qQZ K n).L.length ≤ n ∧ (qQZ K n).m = (qM0 K n).length := by
 have g := qHQ K n
 have h1 := qg6 (qM0 K n) (st0 n)
 have h1 : (qQZ K n).m = 0 + (qM0 K n).length := h1
 have h2 := g.cnt
 have h3 := g.P0
 rw [h3] at h2
 simp at h2
 exact ⟨by omega,qEX g.nod g.lt,by omega⟩
end Go.Vc

namespace Go.Vc
open Go.Proofs
set_option maxRecDepth 10000
set_option maxHeartbeats 4000000
def qAB (l : List qAE) (i : Nat) : List Int := (l.getD i qAC.dflt).2.2.2.2.2.2
def evs (l : List qAE) : List Ev := qM0 (qAB l) l.length
def qkE (e : Ev) : SV := .agg [.int .i64 e.1,.int .i64 e.2.1,.flt e.2.2.1,.bool e.2.2.2]
def frm (p : Nat × Nat) : Int × Int := ((p.1 : Int),(p.2 : Int))
def qEA (p : List (Nat × Nat)) : List (Int × Int) := (p.map frm).reverse
def qxI (l : List qAE) : List (Nat × Nat) → Nat
 | [] => 0
 | (i,j) :: _ => (qAB l i).length - j
def bigT (l : List qAE) : Nat := ((List.range l.length).map fun i => (qAB l i).length).sum + 2
instance oWalk (l : List qAE) : Fn BB 118 [.agg [.rd qAC l]] True (.fn 157 [.el (.sl qAC) [l] 0 0]) := by
 refine Fn.intro (N := 4) [0,1,2] [] Tryz.call118 Tryz.func118 rfl rfl (by kernel_rfl) (fun hpre => ?_)
 all_goals exact vcA
structure WI (l : List qAE) (p : List (Nat × Nat)) (s : List Bool) (m : Nat) : Prop where
 e : (evs l).drop m = qJQ (qAB l) p s m
 s : s.length = l.length
 pn : ∀ q ∈ p,q.1 < l.length
 mle : m ≤ (evs l).length
 m1 : 1 ≤ m
 pl : p.length ≤ m
theorem qcW {l : List qAE} (h : 0 < l.length) : evs l = (0, -1,0,false) :: qJQ (qAB l) [(0,0)] ((List.replicate l.length false).set 0 true) 1 := by
 unfold evs qM0;rw [if_neg (by omega)]
theorem qED (q : Nat × Nat) (r : List (Nat × Nat)) : qEA (q :: r) = qEA r ++ [frm q] := by unfold qEA;rw [List.map_cons,List.reverse_cons]
theorem qCB (p : List (Nat × Nat)) : (qEA p).length = p.length := by unfold qEA;simp
theorem qYL (q : Nat × Nat) (r : List (Nat × Nat)) (d : Int × Int) : (qEA (q :: r)).getD r.length d = frm q := by
 rw [qED,List.getD_eq_getElem?_getD,List.getElem?_append_right (by rw [qCB];omega)]
 simp [qCB]
theorem qaB (l : List qAE) (i : Nat) : (List.getD l i qAC.dflt).2.2.2.2.2.2 = qAB l i := rfl
theorem qwD (i j : Nat) (rest : List (Nat × Nat)) : (((qEA ((i,j) :: rest)).length : Int) - 1).toNat = rest.length := by rw [qCB,List.length_cons];omega
theorem topD (i j : Nat) (rest : List (Nat × Nat)) (d : Int × Int) : (qEA ((i,j) :: rest)).getD (((qEA ((i,j) :: rest)).length : Int) - 1).toNat d = ((i : Int),(j : Int)) := by
 rw [qwD];exact qYL _ _ _
theorem setD (i j : Nat) (rest : List (Nat × Nat)) : (qEA ((i,j) :: rest)).set (((qEA ((i,j) :: rest)).length : Int) - 1).toNat ((i : Int),(j : Int) + 1) = qEA ((i,j + 1) :: rest) := by
 rw [qwD,qED,qED,List.set_append_right _ _ (by rw [qCB];omega),qCB]
 simp [frm]
theorem cutD (i j : Nat) (rest : List (Nat × Nat)) : (qEA ((i,j) :: rest)).take (((qEA ((i,j) :: rest)).length : Int) - 1).toNat = qEA rest := by
 rw [qwD,qED,List.take_append_of_le_length (by rw [qCB];omega), ← qCB,List.take_length]
theorem appD (k : Int) (hk : 0 ≤ k) (rest : List (Nat × Nat)) : qEA rest ++ [(k,0)] = qEA ((k.toNat,0) :: rest) := by
 rw [qED];unfold frm
 rw [show ((k.toNat : Nat) : Int) = k by omega];rfl
theorem drop_cons {α : Type} {l r : List α} {m : Nat} {a : α} (h : l.drop m = a :: r) : m < l.length ∧ (∀ d,l.getD m d = a) ∧ l.drop (m + 1) = r := by
 have hm : m < l.length := by
  rcases Nat.lt_or_ge m l.length with q | q
  ·exact q
  ·rw [List.drop_eq_nil_of_le q] at h;cases h
 rw [List.drop_eq_getElem_cons hm] at h
 injection h with h1 h2
 exact ⟨hm,fun d => by rw [List.getD_eq_getElem?_getD,List.getElem?_eq_getElem hm,h1];rfl,h2⟩
theorem qeJ : ∀ (m : List Nat) (x : Nat),x ∈ m → x ≤ m.sum := by
 intro m
 induction m with
 | nil => intro x hx;cases hx
 | cons a m ih =>
  intro x hx
  rw [List.sum_cons]
  rcases List.mem_cons.1 hx with e | e
  ·omega
  ·have := ih x e;omega
theorem qt4 {s : List Bool} {n : Nat} {k : Int} (hs : s.length = n) (h : (decide (k < 0) || decide (k ≥ (n : Int)) || s.getD k.toNat false) = true) : okK s k = false := by
 unfold okK
 by_cases h1 : k < 0
 ·rw [decide_eq_false (by omega : ¬ 0 ≤ k)];rfl
 ·by_cases h2 : k ≥ (n : Int)
  ·have : s.getD k.toNat true = true := by rw [List.getD_eq_getElem?_getD,List.getElem?_eq_none (by omega)];rfl
   rw [this];simp
  ·rw [decide_eq_false h1,decide_eq_false h2] at h
   have hl : k.toNat < s.length := by omega
   have h3 : s.getD k.toNat false = true := by simpa using h
   have : s.getD k.toNat true = true := by
    rw [List.getD_eq_getElem?_getD,List.getElem?_eq_getElem hl] at h3 ⊢;exact h3
   rw [this];simp
theorem qwO {s : List Bool} {n : Nat} {k : Int} (hs : s.length = n) (h : (decide (k < 0) || decide (k ≥ (n : Int)) || s.getD k.toNat false) = false) : okK s k = true := by
 rw [Bool.or_eq_false_iff,Bool.or_eq_false_iff] at h
 have h1 := of_decide_eq_false h.1.1
 have h2 := of_decide_eq_false h.1.2
 have hl : k.toNat < s.length := by omega
 unfold okK
 rw [decide_eq_true (by omega : 0 ≤ k)]
 have h3 := h.2
 have : s.getD k.toNat true = false := by
  rw [List.getD_eq_getElem?_getD,List.getElem?_eq_getElem hl] at h3 ⊢;exact h3
 rw [this];rfl
theorem qd9 (l : List qAE) (i : Nat) : (qAB l i).length + 2 ≤ bigT l := by
 unfold bigT
 rcases Nat.lt_or_ge i l.length with h | h
 ·have := qeJ ((List.range l.length).map fun i => (qAB l i).length) (qAB l i).length (List.mem_map.2 ⟨i,List.mem_range.2 h,rfl⟩)
  omega
 ·have : qAB l i = [] := by unfold qAB;rw [List.getD_eq_getElem?_getD,List.getElem?_eq_none h];rfl
  rw [this];simp
theorem qYS (l : List qAE) (p : List (Nat × Nat)) : qxI l p + 2 ≤ bigT l := by
 cases p with
 | nil => show 0 + 2 ≤ _;unfold bigT;omega
 | cons q r => obtain ⟨i,j⟩ := q;have := qd9 l i;show (qAB l i).length - j + 2 ≤ _;omega
theorem qcD {l : List qAE} {a b x y : Nat} (h : a + 1 ≤ b) (hx : x + 2 ≤ bigT l) : a * bigT l + x < b * bigT l + y := by
 have : (a + 1) * bigT l ≤ b * bigT l := Nat.mul_le_mul_right _ h
 rw [Nat.add_mul] at this
 omega
instance oIt (l : List qAE) : It BB 157 [.el (.sl qAC) [l] 0 0] (l.length ≤ 45) (evs l).length (fun i => [qkE ((evs l).getD i (0,0,0,false))]) := by
  refine It.intro (N := 118) [0,1,3,4,5,6,7,8,9,19,30,51,60,100,110] [(7,[0,1,0,0,0,1,3,3,3,3]),(12,[0,0,0,1,0,0,0,0,1,1,1,1,3])] 0 Tryz.call157 Tryz.func157 rfl rfl (by kernel_rfl) (fun hpre yl => ?_)
  repeat' ((conv => whnf);first|(with_reducible first|rfl|exact qAH|exact qAG)|exact True.intro|intro _|refine WA ?_ ?_|refine WF ?_|refine W1 rfl ?_ ?_|refine W2 rfl ?_ ?_|refine W3 rfl ?_ ?_|refine W4 ?_ ?_|refine W5 rfl ?_ ?_|refine W6 ?_ ?_|refine WN ?_|refine X1 (W1 rfl ?_ ?_)|refine X1 (W2 rfl ?_ ?_)|refine X2 (W7 rfl ?_ ?_)|refine X3 (W7 rfl ?_ ?_)|refine X4 (W7 rfl ?_ ?_)|refine X5 (W7 rfl ?_ ?_))
  all_goals (try (conv => whnf))
  all_goals (try simp only [List.getD_cons_zero] at *)
  all_goals (try first|exact obA|refine Ob.mk ?_)
  all_goals (try (have hz : l.length = 0 := by have h := ‹((l.length : Int) == 0) = true›;rw [beq_iff_eq] at h;omega))
  all_goals (try (have hz : 0 < l.length := by have h := ‹((l.length : Int) == 0) = false›;rw [beq_eq_false_iff_ne] at h;omega))
  all_goals (try (have he := qcW hz))
  all_goals (try (exfalso;have h := ‹(false || !true) = true›;cases h;done))
  all_goals (try (exfalso;have h := ‹(false || !false) = false›;cases h;done))
  · rw [he,List.length_cons];omega
  · rw [he];rfl
  · rw [he];rfl
  · rw [he];rfl
  · rw [he];rfl
  · rw [List.length_replicate];constructor <;> omega
  · rw [List.length_replicate];show 0 < _;omega
  have hE : (evs l).length ≤ 90 := by
    have := qQ8 (qAB l) l.length
    show (qM0 (qAB l) l.length).length ≤ 90
    omega
  refine LoopStop.mk (α := List (Nat × Nat) × List Bool × Nat) (fun a => [(3,.own 0),(4,.flt a.2.2),(5,.own 1)]) (fun a => [(GID,.gh (some a.2.2)),(0,.own .bool a.2.1),(1,.own qfD (qEA a.1))]) 40
    (fun a => WI l a.1 a.2.1 a.2.2) (fun a => (qJQ (qAB l) a.1 a.2.1 a.2.2).length * bigT l + qxI l a.1) ([(0,0)],(List.replicate l.length false).set 0 true,1) ⟨by rw [he];rfl,by simp,(fun q hq => by simp at hq;subst hq;exact hz),(by show 1 ≤ _;rw [he,List.length_cons];omega),Nat.le_refl _,Nat.le_refl _⟩ ?_ (fun a ha => ?_)
  · repeat' ((conv => whnf);first|(with_reducible first|rfl|exact qAH|exact qAG)|exact True.intro|intro _|refine WA ?_ ?_|refine WF ?_|refine W1 rfl ?_ ?_|refine W2 rfl ?_ ?_|refine W3 rfl ?_ ?_|refine W4 ?_ ?_|refine W5 rfl ?_ ?_|refine W6 ?_ ?_|refine WN ?_|refine X1 (W1 rfl ?_ ?_)|refine X1 (W2 rfl ?_ ?_)|refine X2 (W7 rfl ?_ ?_)|refine X3 (W7 rfl ?_ ?_)|refine X4 (W7 rfl ?_ ?_)|refine X5 (W7 rfl ?_ ?_))
    all_goals (try (conv => whnf))
    all_goals (try first|exact obA|refine Ob.mk ?_)
    all_goals (try rfl)
    all_goals trace_state
  · obtain ⟨p,s,m⟩ := a
    dsimp only at ha ⊢
    cases p with
    | nil =>
      have hm : m = (evs l).length := by
        have h := congrArg List.length ha.e
        have h2 := ha.mle
        rw [List.length_drop] at h
        simp [qJQ] at h
        omega
      repeat' ((conv => whnf);first|(with_reducible first|rfl|exact qAH|exact qAG)|exact True.intro|intro _|refine WA ?_ ?_|refine WF ?_|refine W1 rfl ?_ ?_|refine W2 rfl ?_ ?_|refine W3 rfl ?_ ?_|refine W4 ?_ ?_|refine W5 rfl ?_ ?_|refine W6 ?_ ?_|refine WN ?_|refine X1 (W1 rfl ?_ ?_)|refine X1 (W2 rfl ?_ ?_)|refine X2 (W7 rfl ?_ ?_)|refine X3 (W7 rfl ?_ ?_)|refine X4 (W7 rfl ?_ ?_)|refine X5 (W7 rfl ?_ ?_))
      all_goals (try (conv => whnf))
      all_goals (try first|exact obA|refine Ob.mk ?_)
      all_goals (try (exfalso;have h := of_decide_eq_true ‹decide (((qEA []).length : Int) > 0) = true›;revert h;decide))
      all_goals (first | exact hm | skip)
    | cons q rest =>
      obtain ⟨i,j⟩ := q
      have hin : i < l.length := ha.pn (i,j) List.mem_cons_self
      have hml := ha.mle
      have hm1 := ha.m1
      have hpl : rest.length + 1 ≤ m := ha.pl
      have hek := ha.e
      have hsl := ha.s
      repeat' ((conv => whnf);first|(with_reducible first|rfl|exact qAH|exact qAG)|exact True.intro|intro _|refine WA ?_ ?_|refine WF ?_|refine W1 rfl ?_ ?_|refine W2 rfl ?_ ?_|refine W3 rfl ?_ ?_|refine W4 ?_ ?_|refine W5 rfl ?_ ?_|refine W6 ?_ ?_|refine WN ?_|refine X1 (W1 rfl ?_ ?_)|refine X1 (W2 rfl ?_ ?_)|refine X2 (W7 rfl ?_ ?_)|refine X3 (W7 rfl ?_ ?_)|refine X4 (W7 rfl ?_ ?_)|refine X5 (W7 rfl ?_ ?_))
      all_goals (try (conv => whnf))
      all_goals (try first|exact obA|refine Ob.mk ?_)
      all_goals (try simp only [List.getD_cons_zero] at *)
      all_goals (try simp only [topD] at *)
      all_goals (try simp only [Int.toNat_natCast,qaB,setD,cutD] at *)
      all_goals (try (exfalso;have h := of_decide_eq_false ‹decide (((qEA ((i,j) :: rest)).length : Int) > 0) = false›;rw [qCB,List.length_cons] at h;omega))
      all_goals (try (exfalso;have h := ‹(!true) = true›;cases h;done))
      all_goals (try (exfalso;have h := ‹(!false) = false›;cases h;done))
      all_goals (try (have hj : ¬ j < (qAB l i).length := by have h := of_decide_eq_true ‹decide ((j : Int) ≥ ((qAB l i).length : Int)) = true›;omega))
      all_goals (try (have hj : j < (qAB l i).length := by have h := of_decide_eq_false ‹decide ((j : Int) ≥ ((qAB l i).length : Int)) = false›;omega))
      all_goals (try (rw [qS6 hj] at hek;obtain ⟨d1,d2,d3⟩ := drop_cons hek))
      · exact ⟨by omega,by omega⟩
      · exact d1
      · rw [d2]
      · rw [d2]
      · rw [d2]
      · rw [d2]
      · have hr := qYS l rest
        refine Rnd.mk ⟨(rest,s,m + 1),⟨by rw [d3],hsl,fun q hq => ha.pn q (List.mem_cons_of_mem _ hq),(by show m + 1 ≤ _;omega),(by show 1 ≤ m + 1;omega),(by show rest.length ≤ m + 1;omega)⟩,?_,?_⟩
        · dsimp only
          rw [qS6 hj,List.length_cons]
          exact qcD (Nat.le_refl _) hr
        · repeat' ((conv => whnf);first|(with_reducible first|rfl|exact qAH|exact qAG)|exact True.intro|intro _|refine WA ?_ ?_|refine WF ?_|refine W1 rfl ?_ ?_|refine W2 rfl ?_ ?_|refine W3 rfl ?_ ?_|refine W4 ?_ ?_|refine W5 rfl ?_ ?_|refine W6 ?_ ?_|refine WN ?_|refine X1 (W1 rfl ?_ ?_)|refine X1 (W2 rfl ?_ ?_)|refine X2 (W7 rfl ?_ ?_)|refine X3 (W7 rfl ?_ ?_)|refine X4 (W7 rfl ?_ ?_)|refine X5 (W7 rfl ?_ ?_))
          all_goals (try (conv => whnf))
          all_goals (try first|exact obA|refine Ob.mk ?_)
          all_goals (try rfl)
          all_goals trace_state
      · have hj : j < (qAB l i).length := by
          have h := of_decide_eq_false ‹decide ((j : Int) ≥ ((qAB l i).length : Int)) = false›
          omega
        exact ⟨by omega,by show (j : Int) < ((qAB l i).length : Int);omega⟩
      · have hk : (qAB l i).length ≤ 9223372036854775807 := by assumption
        constructor <;> omega
      · have h : (decide ((qAB l i).getD j 0 < 0) || decide ((qAB l i).getD j 0 ≥ (l.length : Int))) = false := by assumption
        rw [Bool.or_eq_false_iff] at h
        have h1 := of_decide_eq_false h.1
        have h2 := of_decide_eq_false h.2
        show 0 ≤ (qAB l i).getD j 0 ∧ (qAB l i).getD j 0 < (s.length : Int)
        omega
      · have h : (decide ((qAB l i).getD j 0 < 0) || decide ((qAB l i).getD j 0 ≥ (l.length : Int))) = false := by assumption
        rw [Bool.or_eq_false_iff] at h
        have h1 := of_decide_eq_false h.1
        have h2 := of_decide_eq_false h.2
        show ((qAB l i).getD j 0).toNat < s.length
        omega
      · have hc : (decide ((qAB l i).getD j 0 < 0) || decide ((qAB l i).getD j 0 ≥ (l.length : Int)) || s.getD ((qAB l i).getD j 0).toNat false) = true := by assumption
        have hk := qt4 hsl hc
        rw [qUJ hj hk] at hek
        refine Rnd.mk ⟨((i,j + 1) :: rest,s,m),⟨hek,hsl,(fun q hq => (by rcases List.mem_cons.1 hq with e | e;(subst e;exact hin);exact ha.pn q (List.mem_cons_of_mem _ e))),hml,hm1,ha.pl⟩,?_,?_⟩
        · dsimp only
          rw [qUJ hj hk]
          show _ + ((qAB l i).length - (j + 1)) < _ + ((qAB l i).length - j)
          omega
        · all_goals exact vcA
      all_goals (try (have hc : (decide ((qAB l i).getD j 0 < 0) || decide ((qAB l i).getD j 0 ≥ (l.length : Int)) || s.getD ((qAB l i).getD j 0).toNat false) = false := by assumption))
      all_goals (have hk := qwO hsl hc)
      all_goals (have hks := qBL hk)
      all_goals (rw [qYT hj hk] at hek;obtain ⟨d1,d2,d3⟩ := drop_cons hek)
      · exact ⟨hks.1,by show (qAB l i).getD j 0 < (s.length : Int);omega⟩
      · exact hks.2.1
      · exact d1
      · rw [d2];show (qAB l i).getD j 0 = _;dsimp only;omega
      · rw [d2]
      · rw [d2]
      · rw [d2]
      · simp only [cast_eq]
        have := qCB ((i,j + 1) :: rest)
        rw [this]
        simp
        omega
      · refine Rnd.mk ⟨((((qAB l i).getD j 0).toNat,0) :: (i,j + 1) :: rest,s.set ((qAB l i).getD j 0).toNat true,m + 1),⟨d3,by rw [List.length_set];exact hsl,(fun q hq => ?_),(by show m + 1 ≤ _;omega),(by show 1 ≤ m + 1;omega),(by show rest.length + 1 + 1 ≤ m + 1;omega)⟩,?_,?_⟩
        · rcases List.mem_cons.1 hq with e | e
          · subst e;show _ < l.length;have := hks.2.1;omega
          · rcases List.mem_cons.1 e with e | e
            · subst e;exact hin
            · exact ha.pn q (List.mem_cons_of_mem _ e)
        · dsimp only
          rw [qYT hj hk,List.length_cons]
          exact qcD (Nat.le_refl _) (qYS l _)
        · repeat' ((conv => whnf);first|(with_reducible first|rfl|exact qAH|exact qAG)|exact True.intro|intro _|refine WA ?_ ?_|refine WF ?_|refine W1 rfl ?_ ?_|refine W2 rfl ?_ ?_|refine W3 rfl ?_ ?_|refine W4 ?_ ?_|refine W5 rfl ?_ ?_|refine W6 ?_ ?_|refine WN ?_|refine X1 (W1 rfl ?_ ?_)|refine X1 (W2 rfl ?_ ?_)|refine X2 (W7 rfl ?_ ?_)|refine X3 (W7 rfl ?_ ?_)|refine X4 (W7 rfl ?_ ?_)|refine X5 (W7 rfl ?_ ?_))
          all_goals (try (conv => whnf))
          all_goals (try first|exact obA|refine Ob.mk ?_)
          all_goals (try rfl)
          · show Chunk.own qfD _ = Chunk.own qfD _
            rw [← appD _ hks.1]
            rfl
  · have : evs l = [] := by unfold evs qM0;rw [if_pos hz]
    rw [this];rfl
end Go.Vc

namespace Go.Vc
open Go.Proofs
set_option maxRecDepth 10000
set_option maxHeartbeats 4000000
noncomputable abbrev BN : Base := { BB with np := fun t => bif Nat.beq t 49 then some 6 else none }
instance toN_fn {f : FuncId} {args : List SV} {pre : Prop} {res : SV} [h : Fn BB f args pre res] : Fn BN f args pre res := ⟨h.call,h.ok⟩
instance toN_fnM {f : FuncId} {args : List SV} {Φ : Phi} {pre : Prop} {res : SV} {Φ' : Phi} [h : FnM BB f args Φ pre res Φ'] : FnM BN f args Φ pre res Φ' := ⟨h.call,h.ok⟩
def qgG (t out : List qAE) (s : List Bool) (k : Int) : Prop := qFU t = true ∧ s.length = t.length ∧ (0 ≤ k ∧ k < t.length) ∧ out.length + unseen (s.set k.toNat true) + 1 ≤ 5000
theorem qbK {q : List Bool} {n : Nat} (hq : q.length = n) (k : Int) : (decide (k ≥ 0) && decide (k < (n : Int)) && !q.getD k.toNat false) = okK q k := by
  unfold okK
  by_cases h1 : k < 0
  · rw [decide_eq_false (by omega : ¬ k ≥ 0)];rfl
  · rw [decide_eq_true (by omega : k ≥ 0)]
    by_cases h2 : k < (n : Int)
    · rw [decide_eq_true h2]
      have hl : k.toNat < q.length := by omega
      simp [List.getD,hl]
    · have : q.getD k.toNat true = true := by
        rw [List.getD_eq_getElem?_getD,List.getElem?_eq_none (by omega)];rfl
      rw [decide_eq_false h2,this];rfl
theorem qMF (o : List qAE) (p : Nat) (k : Int) (h : p < o.length) : ((qDM o p k).getD p qAC.dflt).kids = (o.getD p qAC.dflt).kids ++ [k] := by
 unfold qDM
 rw [List.getD_eq_getElem?_getD,List.getElem?_set,if_pos rfl,if_pos h];rfl
theorem qPK (o : List qAE) (n : Nat) (k : Int) (h : n < o.length) :
  (o.set n ((o.getD n qAC.dflt).1,(o.getD n qAC.dflt).2.1,(o.getD n qAC.dflt).2.2.1,(o.getD n qAC.dflt).2.2.2.1,(o.getD n qAC.dflt).2.2.2.2.1,(o.getD n qAC.dflt).2.2.2.2.2.1,(o.getD n qAC.dflt).2.2.2.2.2.2 ++ [k])).set n
   ((o.set n ((o.getD n qAC.dflt).1,(o.getD n qAC.dflt).2.1,(o.getD n qAC.dflt).2.2.1,(o.getD n qAC.dflt).2.2.2.1,(o.getD n qAC.dflt).2.2.2.2.1,(o.getD n qAC.dflt).2.2.2.2.2.1,(o.getD n qAC.dflt).2.2.2.2.2.2 ++ [k])).getD n qAC.dflt) = qDM o n k := by
 rw [List.set_set]
 unfold qDM
 congr 1
 rw [List.getD_eq_getElem?_getD,List.getElem?_set,if_pos rfl,if_pos h]
 rfl
theorem qv5 (N : Nat) : ∀ (t out : List qAE) (s : List Bool) (k up : Int),
  FnM BN 122 [.agg [.rd qAC t],.int .i64 k,.int .i64 up,.agg [.own 0],.own 1] [(0,.nst qAC 6 out none),(1,.ow .bool s)]
   (qgG t out s k ∧ unseen (s.set k.toNat true) < N)
   (.agg [.own 0]) [(0,.nst qAC 6 (qOB t (qAB t) out s k.toNat up) none),(1,.ow .bool (qXD (qAB t) s k.toNat))] := by
 induction N with
 | zero => intro t out s k up;exact ⟨Tryz.call122,fun h => absurd h.2 (Nat.not_lt_zero _)⟩
 | succ N ih =>
  intro t out s k up
  refine FnM.intro (N := 99) [0,1,2,3,4,5,8,10,11,12,13,14,48,75] [(12,[0,7,0,0,7,0,4,4,4,0,7,4,4,4,4,4,4]),(3000012,[454,519,779,840,844,909,974,1039])] 2 Tryz.call122 Tryz.func122 rfl rfl (by kernel_rfl) (fun hpre => ?_)
  obtain ⟨⟨hsm,hsl,hk,hlen⟩,hN⟩ := hpre
  repeat' ((conv => whnf);first|(with_reducible first|rfl|exact qAH|exact qAG)|exact True.intro|intro _|refine WA ?_ ?_|refine WF ?_|refine W1 rfl ?_ ?_|refine W2 rfl ?_ ?_|refine W3 rfl ?_ ?_|refine W4 ?_ ?_|refine W5 rfl ?_ ?_|refine W6 ?_ ?_|refine WN ?_|refine X1 (W1 rfl ?_ ?_)|refine X1 (W2 rfl ?_ ?_)|refine X2 (W7 rfl ?_ ?_)|refine X3 (W7 rfl ?_ ?_)|refine X4 (W7 rfl ?_ ?_)|refine X5 (W7 rfl ?_ ?_))
  all_goals (try (conv => whnf))
  all_goals (try first|exact obA|refine Ob.mk ?_)
  all_goals (try simp only [qWK,qTZ,qWZ,qT4,List.length_singleton] at *)
  ·have h64 := (qJY hsm k (qD3.2 hk)).1
   simp only [cast_eq,List.length_nil,Nat.zero_add]
   change ((nd t k).2.2.2.1.length * 32 ≤ _ ∧ (nd t k).2.2.2.1.length ≤ _)
   omega
  refine LoopStop.mk (α := List qAE × List Bool × Nat) (fun a => [(13,.int .i64 a.2.2)]) (fun a => [(0,.nst qAC 6 a.1 none),(1,.ow .bool a.2.1)]) 20
   (fun a => pS t (qAB t) a.1 a.2.1 out.length k.toNat a.2.2 = qOB t (qAB t) out s k.toNat up ∧ sS (qAB t) a.2.1 k.toNat a.2.2 = qXD (qAB t) s k.toNat ∧ a.2.1.length = t.length ∧ a.1.length + unseen a.2.1 ≤ 5000 ∧
    out.length < a.1.length ∧ (a.1.getD out.length qAC.dflt).kids.length ≤ a.2.2 ∧ a.2.2 ≤ (qAB t k.toNat).length ∧ unseen a.2.1 ≤ N)
   (fun a => (qAB t k.toNat).length - a.2.2) (out ++ [mkN (t.getD k.toNat qAC.dflt) up],s.set k.toNat true,0) ⟨rfl,rfl,by simpa using hsl,by simp only [List.length_append,List.length_singleton];omega,by simp,by simp [mkN,qAE.kids],Nat.zero_le _,by show unseen (s.set k.toNat true) ≤ N;omega⟩ ?_ (fun a ha => ?_)
  ·all_goals exact vcA
  ·obtain ⟨o,q,j⟩ := a
   dsimp only at ha ⊢
   obtain ⟨h1,h2,h3,h4,h5,h6,h7,h8⟩ := ha
   repeat' ((conv => whnf);first|(with_reducible first|rfl|exact qAH|exact qAG)|exact True.intro|intro _|refine WA ?_ ?_|refine WF ?_|refine W1 rfl ?_ ?_|refine W2 rfl ?_ ?_|refine W3 rfl ?_ ?_|refine W4 ?_ ?_|refine W5 rfl ?_ ?_|refine W6 ?_ ?_|refine WN ?_|refine X1 (W1 rfl ?_ ?_)|refine X1 (W2 rfl ?_ ?_)|refine X2 (W7 rfl ?_ ?_)|refine X3 (W7 rfl ?_ ?_)|refine X4 (W7 rfl ?_ ?_)|refine X5 (W7 rfl ?_ ?_))
   all_goals (try (conv => whnf))
   all_goals (try first|exact obA|refine Ob.mk ?_)
   all_goals (try simp only [Int.toNat_natCast] at *)
   ·rename_i c1 c2 c3
    have hj : j < (qAB t k.toNat).length := by have h := of_decide_eq_true c2;exact Int.ofNat_lt.mp h
    have hc : okK q ((qAB t k.toNat).getD j 0) = true := by rw [← qbK h3];exact c3
    refine ZStop.mk [] [(0,.nst qAC 6 (qDM o out.length o.length) none)] 60 ?_
    have o1 : Ob (0 ≤ (out.length : Int) ∧ (out.length : Int) < o.length) := Ob.mk ⟨by omega,by omega⟩
    have o2 : Ob ((out.length : Int).toNat < o.length) := Ob.mk (by omega)
    have hkl : (qAB t k.toNat).length ≤ 1000 := (qJY hsm k (qD3.2 hk)).2
    have o3 : Ob (out.length < o.length ∧ ((o.getD out.length qAC.dflt).kids.length + 1) * 8 ≤ 70368744177664 ∧ (o.getD out.length qAC.dflt).kids.length + 1 ≤ 70368744177664) := Ob.mk ⟨h5,by omega,by omega⟩
    have hok := qBL hc
    have hu := qA9 hok.2.2
    repeat' ((conv => whnf);first|(with_reducible first|rfl|exact qAH|exact qAG)|exact True.intro|intro _|refine WA ?_ ?_|refine WF ?_|refine W1 rfl ?_ ?_|refine W2 rfl ?_ ?_|refine W3 rfl ?_ ?_|refine W4 ?_ ?_|refine W5 rfl ?_ ?_|refine W6 ?_ ?_|refine WN ?_|refine X1 (W1 rfl ?_ ?_)|refine X1 (W2 rfl ?_ ?_)|refine X2 (W7 rfl ?_ ?_)|refine X3 (W7 rfl ?_ ?_)|refine X4 (W7 rfl ?_ ?_)|refine X5 (W7 rfl ?_ ?_))
    all_goals (try (conv => whnf))
    all_goals (first | exact o1 | exact o2 | exact o3 | exact Ob.mk rfl | (refine Ob.mk ?_;rw [List.length_set];first | exact o1.h | exact o2.h) | skip)
    any_goals (refine Rnd.mk (p := qHG _ _ _ _ _) ?_)
    repeat' ((conv => whnf);first|(with_reducible first|rfl|exact qAH|exact qAG)|exact True.intro|intro _|refine WA ?_ ?_|refine WF ?_|refine W1 rfl ?_ ?_|refine W2 rfl ?_ ?_|refine W3 rfl ?_ ?_|refine W4 ?_ ?_|refine W5 rfl ?_ ?_|refine W6 ?_ ?_|refine WN ?_|refine X1 (W1 rfl ?_ ?_)|refine X1 (W2 rfl ?_ ?_)|refine X2 (W7 rfl ?_ ?_)|refine X3 (W7 rfl ?_ ?_)|refine X4 (W7 rfl ?_ ?_)|refine X5 (W7 rfl ?_ ?_))
    all_goals (try (conv => whnf))
    all_goals (try exact congrArg (fun l => Chunk.nst qAC 6 l none) (qPK o out.length o.length h5))
    ·refine Ob.mk ⟨⟨hsm,h3,⟨hok.1,by have h := hok.2.1;rw [h3] at h;exact (by omega : (qAB t k.toNat).getD j 0 < (t.length : Int))⟩,by rw [qD9];change o.length + unseen (q.set ((qAB t k.toNat).getD j 0).toNat true) + 1 ≤ _;omega⟩,by change unseen (q.set ((qAB t k.toNat).getD j 0).toNat true) < N;omega⟩
    ·exact Ob.mk ⟨by omega,by omega⟩
    obtain ⟨e1,e2⟩ := qkU (t := t) (out := o) (p := out.length) hj hc
    rw [e1] at h1;rw [e2] at h2
    obtain ⟨l1,l2,l3,l4⟩ := qNC (t := t) (K := qAB t) (qDM o out.length o.length) q ((qAB t k.toNat).getD j 0).toNat out.length
    rw [qD9] at l1 l2 l3
    refine Rnd.mk ⟨(qOB t (qAB t) (qDM o out.length o.length) q ((qAB t k.toNat).getD j 0).toNat out.length,qXD (qAB t) q ((qAB t k.toNat).getD j 0).toNat,j + 1),⟨h1,h2,l4.trans h3,by dsimp only;omega,by dsimp only;omega,?_,by show j + 1 ≤ _;omega,by dsimp only;omega⟩,by show _ - (j + 1) < _;omega,?_⟩
    ·dsimp only
     rw [l3 _ h5,qMF _ _ _ h5,List.length_append,List.length_singleton]
     exact Nat.succ_le_succ h6
    ·all_goals exact vcA
   ·rename_i c1 c2 c3
    have hj : j < (qAB t k.toNat).length := by have h := of_decide_eq_true c2;exact Int.ofNat_lt.mp h
    have hc : okK q ((qAB t k.toNat).getD j 0) = false := by rw [← qbK h3];exact c3
    obtain ⟨e1,e2⟩ := qcE (t := t) (out := o) (p := out.length) hj hc
    rw [e1] at h1;rw [e2] at h2
    refine Rnd.mk ⟨(o,q,j + 1),⟨h1,h2,h3,h4,h5,Nat.le_succ_of_le h6,by show j + 1 ≤ _;omega,h8⟩,by show _ - (j + 1) < _;omega,?_⟩
    all_goals exact vcA
   all_goals (rename_i c1 c2)
   all_goals (have hj : ¬ j < (qAB t k.toNat).length := by have h := of_decide_eq_false c2;exact fun q => h (Int.ofNat_lt.mpr q))
   all_goals (obtain ⟨e1,e2⟩ := qb9 (t := t) (out := o) (p := out.length) (s := q) hj;rw [e1] at h1;rw [e2] at h2)
   ·rw [h1]
   ·rw [h2]
instance hPut14 (t out : List qAE) (s : List Bool) (k up : Int) :
  FnM BN 122 [.agg [.rd qAC t],.int .i64 k,.int .i64 up,.agg [.own 0],.own 1] [(0,.nst qAC 6 out none),(1,.ow .bool s)] (qgG t out s k)
   (.agg [.own 0]) [(0,.nst qAC 6 (qOB t (qAB t) out s k.toNat up) none),(1,.ow .bool (qXD (qAB t) s k.toNat))] :=
 have h := qv5 (unseen (s.set k.toNat true) + 1) t out s k up
 ⟨h.call,fun hp => h.ok ⟨hp,Nat.lt_succ_self _⟩⟩
end Go.Vc

namespace Go.Vc
open Go.Proofs
set_option maxRecDepth 10000
set_option maxHeartbeats 4000000
instance hPut0 (t : List qAE) (s : List Bool) (k up : Int) :
  FnM BN 122 [.agg [.rd qAC t],.int .i64 k,.int .i64 up,.agg [.nils],.own 0] [(0,.own .bool s)] (qgG t [] s k)
   (.agg [.own 1]) [(1,.nst qAC 6 (qOB t (qAB t) [] s k.toNat up) none)] := by
  refine FnM.intro (N := 99) [0,1,2,3,4,5,8,10,11,12,13,14,48,75] [(12,[0,7,0,0,7,0,4,4,4,0,7,4,4,4,4,4,4]),(3000012,[454,519,779,840,844,909,974,1039]),(2000000,[0])] 1 Tryz.call122 Tryz.func122 rfl rfl (by kernel_rfl) (fun hpre => ?_)
  obtain ⟨hsm,hsl,hk,hlen⟩ := hpre
  simp only [List.length_nil,Nat.zero_add] at hlen
  repeat' ((conv => whnf);first|(with_reducible first|rfl|exact qAH|exact qAG)|exact True.intro|intro _|refine WA ?_ ?_|refine WF ?_|refine W1 rfl ?_ ?_|refine W2 rfl ?_ ?_|refine W3 rfl ?_ ?_|refine W4 ?_ ?_|refine W5 rfl ?_ ?_|refine W6 ?_ ?_|refine AppN.ns ?_|refine X1 (W1 rfl ?_ ?_)|refine X1 (W2 rfl ?_ ?_)|refine X2 (W7 rfl ?_ ?_)|refine X3 (W7 rfl ?_ ?_)|refine X4 (W7 rfl ?_ ?_)|refine X5 (W7 rfl ?_ ?_))
  all_goals (try (conv => whnf))
  all_goals (try first|exact obA|refine Ob.mk ?_)
  all_goals (try simp only [qWK,qTZ,qWZ,qT4,List.length_singleton] at *)
  ·have h64 := (qJY hsm k (qD3.2 hk)).1
   simp only [cast_eq,List.length_nil,Nat.zero_add]
   change ((nd t k).2.2.2.1.length * 32 ≤ _ ∧ (nd t k).2.2.2.1.length ≤ _)
   omega
  refine LoopStop.mk (α := List qAE × List Bool × Nat) (fun a => [(13,.int .i64 a.2.2)]) (fun a => [(6,.nst qAC 6 a.1 none),(0,.ow .bool a.2.1)]) 20
   (fun a => pS t (qAB t) a.1 a.2.1 0 k.toNat a.2.2 = qOB t (qAB t) [] s k.toNat up ∧ sS (qAB t) a.2.1 k.toNat a.2.2 = qXD (qAB t) s k.toNat ∧ a.2.1.length = t.length ∧ a.1.length + unseen a.2.1 ≤ 5000 ∧
    0 < a.1.length ∧ (a.1.getD 0 qAC.dflt).kids.length ≤ a.2.2 ∧ a.2.2 ≤ (qAB t k.toNat).length)
   (fun a => (qAB t k.toNat).length - a.2.2) ([] ++ [mkN (t.getD k.toNat qAC.dflt) up],s.set k.toNat true,0) ⟨rfl,rfl,by simpa using hsl,by simp only [List.length_append,List.length_singleton,List.length_nil];omega,by simp,by simp [mkN,qAE.kids],Nat.zero_le _⟩ ?_ (fun a ha => ?_)
  ·all_goals exact vcA
  ·obtain ⟨o,q,j⟩ := a
   dsimp only at ha ⊢
   obtain ⟨h1,h2,h3,h4,h5,h6,h7⟩ := ha
   repeat' ((conv => whnf);first|(with_reducible first|rfl|exact qAH|exact qAG)|exact True.intro|intro _|refine WA ?_ ?_|refine WF ?_|refine W1 rfl ?_ ?_|refine W2 rfl ?_ ?_|refine W3 rfl ?_ ?_|refine W4 ?_ ?_|refine W5 rfl ?_ ?_|refine W6 ?_ ?_|refine WN ?_|refine X1 (W1 rfl ?_ ?_)|refine X1 (W2 rfl ?_ ?_)|refine X2 (W7 rfl ?_ ?_)|refine X3 (W7 rfl ?_ ?_)|refine X4 (W7 rfl ?_ ?_)|refine X5 (W7 rfl ?_ ?_))
   all_goals (try (conv => whnf))
   all_goals (try first|exact obA|refine Ob.mk ?_)
   all_goals (try simp only [Int.toNat_natCast] at *)
   ·rename_i c1 c2 c3
    have hj : j < (qAB t k.toNat).length := by have h := of_decide_eq_true c2;exact Int.ofNat_lt.mp h
    have hc : okK q ((qAB t k.toNat).getD j 0) = true := by rw [← qbK h3];exact c3
    refine ZStop.mk [] [(6,.nst qAC 6 (qDM o 0 o.length) none)] 60 ?_
    have o1 : Ob (0 ≤ (0 : Int) ∧ (0 : Int) < o.length) := Ob.mk ⟨by omega,by omega⟩
    have o2 : Ob ((0 : Int).toNat < o.length) := Ob.mk (by omega)
    have hkl : (qAB t k.toNat).length ≤ 1000 := (qJY hsm k (qD3.2 hk)).2
    have o3 : Ob (0 < o.length ∧ ((o.getD 0 qAC.dflt).kids.length + 1) * 8 ≤ 70368744177664 ∧ (o.getD 0 qAC.dflt).kids.length + 1 ≤ 70368744177664) := Ob.mk ⟨h5,by omega,by omega⟩
    have hok := qBL hc
    have hu := qA9 hok.2.2
    repeat' ((conv => whnf);first|(with_reducible first|rfl|exact qAH|exact qAG)|exact True.intro|intro _|refine WA ?_ ?_|refine WF ?_|refine W1 rfl ?_ ?_|refine W2 rfl ?_ ?_|refine W3 rfl ?_ ?_|refine W4 ?_ ?_|refine W5 rfl ?_ ?_|refine W6 ?_ ?_|refine WN ?_|refine X1 (W1 rfl ?_ ?_)|refine X1 (W2 rfl ?_ ?_)|refine X2 (W7 rfl ?_ ?_)|refine X3 (W7 rfl ?_ ?_)|refine X4 (W7 rfl ?_ ?_)|refine X5 (W7 rfl ?_ ?_))
    all_goals (try (conv => whnf))
    all_goals (first | exact o1 | exact o2 | exact o3 | exact Ob.mk rfl | (refine Ob.mk ?_;rw [List.length_set];first | exact o1.h | exact o2.h) | skip)
    any_goals (refine Rnd.mk (p := qHG _ _ _ _ _) ?_)
    repeat' ((conv => whnf);first|(with_reducible first|rfl|exact qAH|exact qAG)|exact True.intro|intro _|refine WA ?_ ?_|refine WF ?_|refine W1 rfl ?_ ?_|refine W2 rfl ?_ ?_|refine W3 rfl ?_ ?_|refine W4 ?_ ?_|refine W5 rfl ?_ ?_|refine W6 ?_ ?_|refine WN ?_|refine X1 (W1 rfl ?_ ?_)|refine X1 (W2 rfl ?_ ?_)|refine X2 (W7 rfl ?_ ?_)|refine X3 (W7 rfl ?_ ?_)|refine X4 (W7 rfl ?_ ?_)|refine X5 (W7 rfl ?_ ?_))
    all_goals (try (conv => whnf))
    all_goals (try exact congrArg (fun l => Chunk.nst qAC 6 l none) (qPK o 0 o.length h5))
    ·refine Ob.mk ⟨hsm,h3,⟨hok.1,by have h := hok.2.1;rw [h3] at h;exact (by omega : (qAB t k.toNat).getD j 0 < (t.length : Int))⟩,by rw [qD9];change o.length + unseen (q.set ((qAB t k.toNat).getD j 0).toNat true) + 1 ≤ _;omega⟩
    ·exact Ob.mk ⟨by omega,by omega⟩
    obtain ⟨e1,e2⟩ := qkU (t := t) (out := o) (p := 0) hj hc
    rw [e1] at h1;rw [e2] at h2
    obtain ⟨l1,l2,l3,l4⟩ := qNC (t := t) (K := qAB t) (qDM o 0 o.length) q ((qAB t k.toNat).getD j 0).toNat 0
    rw [qD9] at l1 l2 l3
    refine Rnd.mk ⟨(qOB t (qAB t) (qDM o 0 o.length) q ((qAB t k.toNat).getD j 0).toNat 0,qXD (qAB t) q ((qAB t k.toNat).getD j 0).toNat,j + 1),⟨h1,h2,l4.trans h3,by dsimp only;omega,by dsimp only;omega,?_,by show j + 1 ≤ _;omega⟩,by show _ - (j + 1) < _;omega,?_⟩
    ·dsimp only
     rw [l3 _ h5,qMF _ _ _ h5,List.length_append,List.length_singleton]
     exact Nat.succ_le_succ h6
    ·all_goals exact vcA
   ·rename_i c1 c2 c3
    have hj : j < (qAB t k.toNat).length := by have h := of_decide_eq_true c2;exact Int.ofNat_lt.mp h
    have hc : okK q ((qAB t k.toNat).getD j 0) = false := by rw [← qbK h3];exact c3
    obtain ⟨e1,e2⟩ := qcE (t := t) (out := o) (p := 0) hj hc
    rw [e1] at h1;rw [e2] at h2
    refine Rnd.mk ⟨(o,q,j + 1),⟨h1,h2,h3,h4,h5,Nat.le_succ_of_le h6,by show j + 1 ≤ _;omega⟩,by show _ - (j + 1) < _;omega,?_⟩
    all_goals exact vcA
   all_goals (rename_i c1 c2)
   all_goals (have hj : ¬ j < (qAB t k.toNat).length := by have h := of_decide_eq_false c2;exact fun q => h (Int.ofNat_lt.mpr q))
   all_goals (obtain ⟨e1,e2⟩ := qb9 (t := t) (out := o) (p := 0) (s := q) hj;rw [e1] at h1;rw [e2] at h2)
   ·rw [h1]
end Go.Vc

namespace Go.Vc
open Go.Proofs
set_option maxRecDepth 10000
set_option maxHeartbeats 4000000
def qEI (t : List qAE) : List qAE := if t = [] then [qYA] else qOB t (qAB t) [] (List.replicate t.length false) 0 (-1)
theorem qIU (s : List Bool) : unseen s ≤ s.length := List.count_le_length
theorem qYO {t : List qAE} (h : qFU t = true) (h0 : ¬ ((t.length : Int) == 0) = true) : qgG t [] (List.replicate t.length false) 0 := by
 have h1 : 0 < t.length := by
  rcases Nat.eq_zero_or_pos t.length with h | h
  ·exact absurd (by rw [h];rfl) h0
  ·exact h
 have h2 := qP3 h
 have h3 := qIU ((List.replicate t.length false).set 0 true)
 rw [List.length_set,List.length_replicate] at h3
 refine ⟨h,List.length_replicate,⟨Int.le_refl 0,by omega⟩,?_⟩
 show 0 + unseen ((List.replicate t.length false).set 0 true) + 1 ≤ 5000
 omega
theorem qbU {t : List qAE} (h0 : ((t.length : Int) == 0) = true) : qEI t = [qYA] := by
 have h1 : t.length = 0 := by have := eq_of_beq h0;omega
 unfold qEI;rw [if_pos (List.length_eq_zero_iff.1 h1)]
theorem qe4 {t : List qAE} (h0 : ¬ ((t.length : Int) == 0) = true) : qEI t = qOB t (qAB t) [] (List.replicate t.length false) 0 (-1) := by
 unfold qEI;rw [if_neg (fun h => h0 (by rw [h];rfl))]
instance hTidyN (t : List qAE) : FnM BN 69 [.agg [.rd qAC t]] [] (qFU t = true) (.agg [.rd qAC (qEI t)]) [] := by
 refine FnM.intro (N := 15) [0,1,2,6] [(3,[4,4,0,4,4,4,4,4])] 0 Tryz.call69 Tryz.func69 rfl rfl (by kernel_rfl) (fun hpre => ?_)
 repeat' ((conv => whnf);first|(with_reducible first|rfl|exact qAH|exact qAG)|exact True.intro|intro _|refine WA ?_ ?_|refine WF ?_|refine W1 rfl ?_ ?_|refine W2 rfl ?_ ?_|refine W3 rfl ?_ ?_|refine W4 ?_ ?_|refine W5 rfl ?_ ?_|refine W6 ?_ ?_|refine WN ?_|refine X1 (W1 rfl ?_ ?_)|refine X1 (W2 rfl ?_ ?_)|refine X2 (W7 rfl ?_ ?_)|refine X3 (W7 rfl ?_ ?_)|refine X4 (W7 rfl ?_ ?_)|refine X5 (W7 rfl ?_ ?_))
 all_goals (try (conv => whnf))
 all_goals (try first|exact obA|refine Ob.mk ?_)
 ·rw [qbU ‹_›]
 all_goals (have h0 : ¬ ((t.length : Int) == 0) = true := by rw [show ((t.length : Int) == 0) = false from by assumption];decide)
 all_goals (first | exact qYO hpre h0 | (rw [qe4 h0];rfl) | (have := qP3 hpre;refine ⟨by omega,by omega,?_,by omega⟩;show (t.length : Int) * ((1 : Nat) : Int) ≤ _;omega))
end Go.Vc
