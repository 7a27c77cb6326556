/- A part of the proof: lemmas and walks that the last text of the claim joins; no condition. -/
import Derived.Test.YtjnmepijcndcpaaGreatReferLeadsVF
import Derived.Laws.Externs
import Derived.Test.YtjnmepijcndcpaaGreatProg
import Derived.Shelf.Spec.SlicesInsert
import Derived.Shelf.Spec.SlicesInsertGrow
import Derived.Shelf.Strings.Builder1
import Derived.Shelf.Strings.Builder2
import Derived.Shelf.Strings.OnBuilder
import Derived.Shelf.Strings.BuilderF
import Derived.Shelf.Strings.BuilderK
import Derived.Shelf.Strings.Builder2Cap
import Derived.Shelf.Strings.Search1
import Derived.Shelf.Strings.Search2
import Derived.Shelf.Strings.Search3
import Derived.Shelf.LaysM
import Derived.Shelf.Strings.Shaped
import Derived.Shelf.Strings.Prefix
import Derived.Shelf.Strings.FieldsFuncAny
import Derived.Shelf.Slices.Turned
import Derived.Shelf.Slices.Equal
import Derived.Ground.Names2Prog
import Derived.Shelf.Slices.Clone
import Derived.Shelf.Slices.Empties2
import Derived.Ground.SlgnProg
import Derived.Shelf.SlicesE.Clone
import Derived.Test.YtjnmepijcndcpaaGreatReferLeadsTA
import Derived.Shelf.Slices.Delete
import Derived.Shelf.Slices.Cells
import Derived.Shelf.Slices.Empties
set_option linter.unusedVariables false
set_option linter.unusedSimpArgs false
set_option maxHeartbeats 8000000
namespace Go.Vc
open Go.Proofs
theorem mixed : Tryz.prog.follows .mixedOrders = true := by kernel_rfl
abbrev qAH : Ty := .int .i64
abbrev qe0 : Ty := .pr qAH qAH
abbrev qAP : Ty := .pr .str .str
abbrev qu8 : Ty := .pr qAH (.pr .str (.pr (.sl qAP) (.pr .bool .str)))
abbrev qAC : Ty := .pr qAH (.pr qAH (.pr .str (.pr (.sl qAP) (.pr .str (.pr qAH (.sl qAH))))))
abbrev qMA : Ty := .pr qAH (.pr .str (.pr qAH (.pr .str qAH)))
def tyB (t : TypeId) : Option Ty :=
 bif Nat.beq t 3 then some qAH else bif Nat.beq t 4 then some .bool else bif Nat.beq t 5 then some .byte else bif Nat.beq t 9 then some .str else bif Nat.beq t 54 then some qAP else bif Nat.beq t 49 then some qAC else bif Nat.beq t 200 then some qe0 else bif Nat.beq t 164 then some qu8 else bif Nat.beq t 26 then some (.sl .str) else bif Nat.beq t 172 then some qe0 else bif Nat.beq t 83 then some .cpx else bif Nat.beq t 130 then some .flt else bif Nat.beq t 69 then some qMA else bif Nat.beq t 150 then some .str else none
def qw7 (t : TypeId) : Bool := Nat.beq t 54 || Nat.beq t 69
theorem qdU : ∀ t, qw7 t = true → Tryz.prog.stoodInHeld t = false ∧ Tryz.prog.eqGuardType Tryz.prog.depth t = false ∧ ((Tryz.prog.fieldsOf t).toList.all fun f => f.name != "_") = true := by
 intro t h
 rcases Bool.or_eq_true_iff.1 h with h | h
 all_goals (obtain rfl := qAI h;exact ⟨by kernel_rfl,by kernel_rfl,by kernel_rfl⟩)
def neB (f : FuncId) : Bool := Nat.beq f 255
theorem qkO : ∀ f,neB f = true → ∀ (x : Value) (w : World),(callFunc f #[x]).run Tryz.prog w = .ok (.value x) w := by
 intro f h x w
 obtain rfl := qAI h
 rw [run_callFunc_extern Tryz.func255 (by kernel_rfl) (by kernel_rfl) (by kernel_rfl) (e := Extern.AbiNoEscape.same) (by kernel_rfl)]
 rfl
def tbB (t : TypeId) : Bool := Nat.beq t 191
noncomputable abbrev BB : Base := { P := Tryz.prog,mixed := mixed,G := fun r => ∃ c T fr m,r 0 = some (.cells c T fr) ∧ c[0]? = some (.int .i64 m),mono := fun r r' h ⟨c,T,fr,m,h1,h2⟩ => ⟨c,T,fr,m,h 0 _ h1,h2⟩,ty0 := tyB,eqs := qw7,eqs_ok := qdU,ne := neB,ne_ok := qkO,tb := tbB }
set_option maxRecDepth 10000
@[simp] theorem qxH : qAA Tryz.prog 1 = 8 := rfl
@[simp] theorem qtO : qAA BB.P 1 = 8 := rfl
@[simp] theorem qw6 : qAA Tryz.prog 2 = 8 := rfl
@[simp] theorem qu5 : qAA BB.P 2 = 8 := rfl
@[simp] theorem bytes3 : qAA Tryz.prog 3 = 8 := rfl
@[simp] theorem qWY : qAA BB.P 3 = 8 := rfl
@[simp] theorem bytes4 : qAA Tryz.prog 4 = 1 := rfl
@[simp] theorem qv0 : qAA BB.P 4 = 1 := rfl
@[simp] theorem bytes5 : qAA Tryz.prog 5 = 1 := rfl
@[simp] theorem quF : qAA BB.P 5 = 1 := rfl
@[simp] theorem qw9 : qAA Tryz.prog 6 = 1 := rfl
@[simp] theorem qwI : qAA BB.P 6 = 1 := rfl
@[simp] theorem qxB : qAA Tryz.prog 7 = 24 := rfl
@[simp] theorem qvW : qAA BB.P 7 = 24 := rfl
@[simp] theorem qw8 : qAA Tryz.prog 8 = 24 := rfl
@[simp] theorem qw2 : qAA BB.P 8 = 24 := rfl
@[simp] theorem bytes9 : qAA Tryz.prog 9 = 16 := rfl
@[simp] theorem qwU : qAA BB.P 9 = 16 := rfl
@[simp] theorem qv3 : qAA Tryz.prog 10 = 16 := rfl
@[simp] theorem qoE : qAA BB.P 10 = 16 := rfl
@[simp] theorem quW : qAA Tryz.prog 11 = 16 := rfl
@[simp] theorem qn0 : qAA BB.P 11 = 16 := rfl
@[simp] theorem qt0 : qAA Tryz.prog 12 = 8 := rfl
@[simp] theorem qsT : qAA BB.P 12 = 8 := rfl
@[simp] theorem qtQ : qAA Tryz.prog 13 = 24 := rfl
@[simp] theorem qmC : qAA BB.P 13 = 24 := rfl
@[simp] theorem qu0 : qAA Tryz.prog 14 = 24 := rfl
@[simp] theorem qs3 : qAA BB.P 14 = 24 := rfl
@[simp] theorem qvC : qAA Tryz.prog 15 = 8 := rfl
@[simp] theorem qqX : qAA BB.P 15 = 8 := rfl
@[simp] theorem qu3 : qAA Tryz.prog 16 = 8 := rfl
@[simp] theorem qpX : qAA BB.P 16 = 8 := rfl
@[simp] theorem qwV : qAA Tryz.prog 17 = 8 := rfl
@[simp] theorem qmT : qAA BB.P 17 = 8 := rfl
@[simp] theorem qv1 : qAA Tryz.prog 18 = 8 := rfl
@[simp] theorem qm6 : qAA BB.P 18 = 8 := rfl
@[simp] theorem qu6 : qAA Tryz.prog 19 = 8 := rfl
@[simp] theorem qsJ : qAA BB.P 19 = 8 := rfl
@[simp] theorem quB : qAA Tryz.prog 20 = 16 := rfl
@[simp] theorem qsF : qAA BB.P 20 = 16 := rfl
@[simp] theorem bytes21 : qAA Tryz.prog 21 = 4 := rfl
@[simp] theorem qq4 : qAA BB.P 21 = 4 := rfl
@[simp] theorem qv4 : qAA Tryz.prog 22 = 24 := rfl
@[simp] theorem qm8 : qAA BB.P 22 = 24 := rfl
@[simp] theorem bytes23 : qAA Tryz.prog 23 = 24 := rfl
@[simp] theorem qoA : qAA BB.P 23 = 24 := rfl
@[simp] theorem quR : qAA Tryz.prog 24 = 24 := rfl
@[simp] theorem ql8 : qAA BB.P 24 = 24 := rfl
@[simp] theorem bytes25 : qAA Tryz.prog 25 = 24 := rfl
@[simp] theorem qoN : qAA BB.P 25 = 24 := rfl
@[simp] theorem bytes26 : qAA Tryz.prog 26 = 24 := rfl
@[simp] theorem qn1 : qAA BB.P 26 = 24 := rfl
@[simp] theorem bytes27 : qAA Tryz.prog 27 = 88 := rfl
@[simp] theorem qrP : qAA BB.P 27 = 88 := rfl
@[simp] theorem bytes28 : qAA Tryz.prog 28 = 88 := rfl
@[simp] theorem qoV : qAA BB.P 28 = 88 := rfl
@[simp] theorem qtP : qAA Tryz.prog 29 = 8 := rfl
@[simp] theorem qrU : qAA BB.P 29 = 8 := rfl
@[simp] theorem bytes30 : qAA Tryz.prog 30 = 8 := rfl
@[simp] theorem qnL : qAA BB.P 30 = 8 := rfl
@[simp] theorem qvE : qAA Tryz.prog 31 = 8 := rfl
@[simp] theorem qs9 : qAA BB.P 31 = 8 := rfl
@[simp] theorem qtT : qAA Tryz.prog 32 = 24 := rfl
@[simp] theorem qrA : qAA BB.P 32 = 24 := rfl
@[simp] theorem qv2 : qAA Tryz.prog 33 = 8 := rfl
@[simp] theorem qm9 : qAA BB.P 33 = 8 := rfl
@[simp] theorem qw3 : qAA Tryz.prog 34 = 8 := rfl
@[simp] theorem qqH : qAA BB.P 34 = 8 := rfl
@[simp] theorem quP : qAA Tryz.prog 35 = 8 := rfl
@[simp] theorem qsK : qAA BB.P 35 = 8 := rfl
@[simp] theorem qvM : qAA Tryz.prog 36 = 8 := rfl
@[simp] theorem qqN : qAA BB.P 36 = 8 := rfl
@[simp] theorem qwX : qAA Tryz.prog 37 = 8 := rfl
@[simp] theorem qrD : qAA BB.P 37 = 8 := rfl
@[simp] theorem qvI : qAA Tryz.prog 38 = 8 := rfl
@[simp] theorem qmY : qAA BB.P 38 = 8 := rfl
@[simp] theorem qt2 : qAA Tryz.prog 39 = 8 := rfl
@[simp] theorem qq0 : qAA BB.P 39 = 8 := rfl
@[simp] theorem qwW : qAA Tryz.prog 40 = 8 := rfl
@[simp] theorem qqS : qAA BB.P 40 = 8 := rfl
@[simp] theorem qvQ : qAA Tryz.prog 41 = 8 := rfl
@[simp] theorem qr3 : qAA BB.P 41 = 8 := rfl
@[simp] theorem qu7 : qAA Tryz.prog 42 = 8 := rfl
@[simp] theorem qp6 : qAA BB.P 42 = 8 := rfl
@[simp] theorem qwZ : qAA Tryz.prog 43 = 8 := rfl
@[simp] theorem qoK : qAA BB.P 43 = 8 := rfl
@[simp] theorem qvH : qAA Tryz.prog 44 = 8 := rfl
@[simp] theorem qrH : qAA BB.P 44 = 8 := rfl
@[simp] theorem qtR : qAA Tryz.prog 45 = 8 := rfl
@[simp] theorem qo8 : qAA BB.P 45 = 8 := rfl
@[simp] theorem qvV : qAA Tryz.prog 46 = 8 := rfl
@[simp] theorem qrY : qAA BB.P 46 = 8 := rfl
@[simp] theorem qwQ : qAA Tryz.prog 47 = 24 := rfl
@[simp] theorem qqI : qAA BB.P 47 = 24 := rfl
@[simp] theorem qt3 : qAA Tryz.prog 48 = 104 := rfl
@[simp] theorem qsV : qAA BB.P 48 = 104 := rfl
@[simp] theorem qYU : qAA Tryz.prog 49 = 104 := rfl
@[simp] theorem qT3 : qAA BB.P 49 = 104 := rfl
@[simp] theorem qvD : qAA Tryz.prog 50 = 8 := rfl
@[simp] theorem qoW : qAA BB.P 50 = 8 := rfl
@[simp] theorem quY : qAA Tryz.prog 51 = 8 := rfl
@[simp] theorem qoY : qAA BB.P 51 = 8 := rfl
@[simp] theorem qu9 : qAA Tryz.prog 52 = 8 := rfl
@[simp] theorem qnQ : qAA BB.P 52 = 8 := rfl
@[simp] theorem qv8 : qAA Tryz.prog 53 = 32 := rfl
@[simp] theorem qoH : qAA BB.P 53 = 32 := rfl
@[simp] theorem qYZ : qAA Tryz.prog 54 = 32 := rfl
@[simp] theorem qT6 : qAA BB.P 54 = 32 := rfl
@[simp] theorem qwG : qAA Tryz.prog 55 = 8 := rfl
@[simp] theorem qpW : qAA BB.P 55 = 8 := rfl
@[simp] theorem qwP : qAA Tryz.prog 56 = 8 := rfl
@[simp] theorem qm1 : qAA BB.P 56 = 8 := rfl
@[simp] theorem quI : qAA Tryz.prog 57 = 8 := rfl
@[simp] theorem qqJ : qAA BB.P 57 = 8 := rfl
@[simp] theorem quT : qAA Tryz.prog 58 = 8 := rfl
@[simp] theorem qnJ : qAA BB.P 58 = 8 := rfl
@[simp] theorem qvU : qAA Tryz.prog 59 = 8 := rfl
@[simp] theorem qsQ : qAA BB.P 59 = 8 := rfl
@[simp] theorem qwF : qAA Tryz.prog 60 = 8 := rfl
@[simp] theorem qpL : qAA BB.P 60 = 8 := rfl
@[simp] theorem qt1 : qAA Tryz.prog 61 = 8 := rfl
@[simp] theorem qmG : qAA BB.P 61 = 8 := rfl
@[simp] theorem qtZ : qAA Tryz.prog 62 = 8 := rfl
@[simp] theorem qqU : qAA BB.P 62 = 8 := rfl
@[simp] theorem quO : qAA Tryz.prog 63 = 8 := rfl
@[simp] theorem qrC : qAA BB.P 63 = 8 := rfl
@[simp] theorem quZ : qAA Tryz.prog 64 = 8 := rfl
@[simp] theorem qrF : qAA BB.P 64 = 8 := rfl
@[simp] theorem qwB : qAA Tryz.prog 65 = 24 := rfl
@[simp] theorem qnX : qAA BB.P 65 = 24 := rfl
@[simp] theorem qtS : qAA Tryz.prog 66 = 8 := rfl
@[simp] theorem qm2 : qAA BB.P 66 = 8 := rfl
@[simp] theorem qvN : qAA Tryz.prog 67 = 8 := rfl
@[simp] theorem qpN : qAA BB.P 67 = 8 := rfl
@[simp] theorem quJ : qAA Tryz.prog 68 = 56 := rfl
@[simp] theorem qqW : qAA BB.P 68 = 56 := rfl
@[simp] theorem qcX : qAA Tryz.prog 69 = 56 := rfl
@[simp] theorem qbC : qAA BB.P 69 = 56 := rfl
@[simp] theorem quK : qAA Tryz.prog 70 = 8 := rfl
@[simp] theorem qpD : qAA BB.P 70 = 8 := rfl
@[simp] theorem qvG : qAA Tryz.prog 71 = 24 := rfl
@[simp] theorem qpB : qAA BB.P 71 = 24 := rfl
@[simp] theorem qw1 : qAA Tryz.prog 72 = 104 := rfl
@[simp] theorem qpK : qAA BB.P 72 = 104 := rfl
@[simp] theorem quA : qAA Tryz.prog 73 = 104 := rfl
@[simp] theorem qo1 : qAA BB.P 73 = 104 := rfl
@[simp] theorem qwR : qAA Tryz.prog 74 = 8 := rfl
@[simp] theorem qrZ : qAA BB.P 74 = 8 := rfl
@[simp] theorem qt4 : qAA Tryz.prog 75 = 8 := rfl
@[simp] theorem qqK : qAA BB.P 75 = 8 := rfl
@[simp] theorem quM : qAA Tryz.prog 76 = 8 := rfl
@[simp] theorem qr2 : qAA BB.P 76 = 8 := rfl
@[simp] theorem qv6 : qAA Tryz.prog 78 = 8 := rfl
@[simp] theorem qrM : qAA BB.P 78 = 8 := rfl
@[simp] theorem qvL : qAA Tryz.prog 79 = 24 := rfl
@[simp] theorem qm5 : qAA BB.P 79 = 24 := rfl
@[simp] theorem qt8 : qAA Tryz.prog 80 = 8 := rfl
@[simp] theorem qqB : qAA BB.P 80 = 8 := rfl
@[simp] theorem qwD : qAA Tryz.prog 81 = 8 := rfl
@[simp] theorem qn9 : qAA BB.P 81 = 8 := rfl
@[simp] theorem quG : qAA Tryz.prog 82 = 8 := rfl
@[simp] theorem qmV : qAA BB.P 82 = 8 := rfl
@[simp] theorem qwN : qAA Tryz.prog 83 = 16 := rfl
@[simp] theorem qpQ : qAA BB.P 83 = 16 := rfl
@[simp] theorem qvB : qAA Tryz.prog 84 = 8 := rfl
@[simp] theorem qsA : qAA BB.P 84 = 8 := rfl
@[simp] theorem qvP : qAA Tryz.prog 85 = 8 := rfl
@[simp] theorem qoO : qAA BB.P 85 = 8 := rfl
@[simp] theorem quX : qAA Tryz.prog 86 = 8 := rfl
@[simp] theorem ql7 : qAA BB.P 86 = 8 := rfl
@[simp] theorem quC : qAA Tryz.prog 87 = 8 := rfl
@[simp] theorem qnC : qAA BB.P 87 = 8 := rfl
@[simp] theorem qwK : qAA Tryz.prog 88 = 8 := rfl
@[simp] theorem qsZ : qAA BB.P 88 = 8 := rfl
@[simp] theorem quN : qAA Tryz.prog 89 = 8 := rfl
@[simp] theorem qmM : qAA BB.P 89 = 8 := rfl
@[simp] theorem qvO : qAA Tryz.prog 90 = 8 := rfl
@[simp] theorem qn5 : qAA BB.P 90 = 8 := rfl
@[simp] theorem qtW : qAA Tryz.prog 91 = 8 := rfl
@[simp] theorem qmJ : qAA BB.P 91 = 8 := rfl
@[simp] theorem qvJ : qAA Tryz.prog 92 = 8 := rfl
@[simp] theorem qsW : qAA BB.P 92 = 8 := rfl
@[simp] theorem qwJ : qAA Tryz.prog 93 = 8 := rfl
@[simp] theorem qpZ : qAA BB.P 93 = 8 := rfl
@[simp] theorem qv5 : qAA Tryz.prog 94 = 8 := rfl
@[simp] theorem qq6 : qAA BB.P 94 = 8 := rfl
@[simp] theorem quD : qAA Tryz.prog 95 = 24 := rfl
@[simp] theorem ql9 : qAA BB.P 95 = 24 := rfl
@[simp] theorem qwL : qAA Tryz.prog 96 = 8 := rfl
@[simp] theorem qtI : qAA BB.P 96 = 8 := rfl
@[simp] theorem qtU : qAA Tryz.prog 97 = 8 := rfl
@[simp] theorem qr6 : qAA BB.P 97 = 8 := rfl
@[simp] theorem qwO : qAA Tryz.prog 98 = 8 := rfl
@[simp] theorem qnE : qAA BB.P 98 = 8 := rfl
@[simp] theorem qvZ : qAA Tryz.prog 99 = 8 := rfl
@[simp] theorem qs1 : qAA BB.P 99 = 8 := rfl
@[simp] theorem ql5 : qAA Tryz.prog 100 = 8 := rfl
@[simp] theorem qi8 : qAA BB.P 100 = 8 := rfl
@[simp] theorem qtC : qAA Tryz.prog 102 = 8 := rfl
@[simp] theorem qf6 : qAA BB.P 102 = 8 := rfl
@[simp] theorem qo7 : qAA Tryz.prog 103 = 8 := rfl
@[simp] theorem qfO : qAA BB.P 103 = 8 := rfl
@[simp] theorem qqR : qAA Tryz.prog 104 = 8 := rfl
@[simp] theorem qk6 : qAA BB.P 104 = 8 := rfl
@[simp] theorem qsE : qAA Tryz.prog 105 = 8 := rfl
@[simp] theorem qj0 : qAA BB.P 105 = 8 := rfl
@[simp] theorem qq1 : qAA Tryz.prog 106 = 8 := rfl
@[simp] theorem qh6 : qAA BB.P 106 = 8 := rfl
@[simp] theorem qpR : qAA Tryz.prog 107 = 8 := rfl
@[simp] theorem qjJ : qAA BB.P 107 = 8 := rfl
@[simp] theorem qm4 : qAA Tryz.prog 108 = 8 := rfl
@[simp] theorem qjE : qAA BB.P 108 = 8 := rfl
@[simp] theorem qoC : qAA Tryz.prog 109 = 8 := rfl
@[simp] theorem qk8 : qAA BB.P 109 = 8 := rfl
@[simp] theorem qmB : qAA Tryz.prog 110 = 8 := rfl
@[simp] theorem qj5 : qAA BB.P 110 = 8 := rfl
@[simp] theorem qpY : qAA Tryz.prog 111 = 8 := rfl
@[simp] theorem qlY : qAA BB.P 111 = 8 := rfl
@[simp] theorem qs6 : qAA Tryz.prog 112 = 8 := rfl
@[simp] theorem qkY : qAA BB.P 112 = 8 := rfl
@[simp] theorem qpC : qAA Tryz.prog 113 = 8 := rfl
@[simp] theorem qkP : qAA BB.P 113 = 8 := rfl
@[simp] theorem qtJ : qAA Tryz.prog 114 = 8 := rfl
@[simp] theorem qg8 : qAA BB.P 114 = 8 := rfl
@[simp] theorem qr1 : qAA Tryz.prog 115 = 8 := rfl
@[simp] theorem qiO : qAA BB.P 115 = 8 := rfl
@[simp] theorem qsH : qAA Tryz.prog 116 = 8 := rfl
@[simp] theorem qhT : qAA BB.P 116 = 8 := rfl
@[simp] theorem qnG : qAA Tryz.prog 117 = 8 := rfl
@[simp] theorem qjQ : qAA BB.P 117 = 8 := rfl
@[simp] theorem qq9 : qAA Tryz.prog 118 = 48 := rfl
@[simp] theorem qiQ : qAA BB.P 118 = 48 := rfl
@[simp] theorem qqG : qAA Tryz.prog 119 = 48 := rfl
@[simp] theorem qgF : qAA BB.P 119 = 48 := rfl
@[simp] theorem qoG : qAA Tryz.prog 120 = 8 := rfl
@[simp] theorem qiE : qAA BB.P 120 = 8 := rfl
@[simp] theorem qsG : qAA Tryz.prog 121 = 8 := rfl
@[simp] theorem qiL : qAA BB.P 121 = 8 := rfl
@[simp] theorem qqL : qAA Tryz.prog 122 = 8 := rfl
@[simp] theorem qhQ : qAA BB.P 122 = 8 := rfl
@[simp] theorem qm3 : qAA Tryz.prog 123 = 136 := rfl
@[simp] theorem qkH : qAA BB.P 123 = 136 := rfl
@[simp] theorem qq5 : qAA Tryz.prog 124 = 136 := rfl
@[simp] theorem qi3 : qAA BB.P 124 = 136 := rfl
@[simp] theorem qpE : qAA Tryz.prog 126 = 8 := rfl
@[simp] theorem qi9 : qAA BB.P 126 = 8 := rfl
@[simp] theorem qoT : qAA Tryz.prog 127 = 8 := rfl
@[simp] theorem qkX : qAA BB.P 127 = 8 := rfl
@[simp] theorem qsN : qAA Tryz.prog 128 = 8 := rfl
@[simp] theorem qj2 : qAA BB.P 128 = 8 := rfl
@[simp] theorem qoM : qAA Tryz.prog 129 = 8 := rfl
@[simp] theorem qgL : qAA BB.P 129 = 8 := rfl
@[simp] theorem qsD : qAA Tryz.prog 130 = 8 := rfl
@[simp] theorem qfS : qAA BB.P 130 = 8 := rfl
@[simp] theorem qnI : qAA Tryz.prog 131 = 32 := rfl
@[simp] theorem qfP : qAA BB.P 131 = 32 := rfl
@[simp] theorem qnA : qAA Tryz.prog 132 = 32 := rfl
@[simp] theorem ql1 : qAA BB.P 132 = 32 := rfl
@[simp] theorem qq3 : qAA Tryz.prog 133 = 8 := rfl
@[simp] theorem qf7 : qAA BB.P 133 = 8 := rfl
@[simp] theorem qqQ : qAA Tryz.prog 134 = 8 := rfl
@[simp] theorem qjP : qAA BB.P 134 = 8 := rfl
@[simp] theorem qsP : qAA Tryz.prog 135 = 8 := rfl
@[simp] theorem qjN : qAA BB.P 135 = 8 := rfl
@[simp] theorem qnN : qAA Tryz.prog 136 = 8 := rfl
@[simp] theorem qkE : qAA BB.P 136 = 8 := rfl
@[simp] theorem qsU : qAA Tryz.prog 137 = 8 := rfl
@[simp] theorem qg7 : qAA BB.P 137 = 8 := rfl
@[simp] theorem ql6 : qAA Tryz.prog 138 = 8 := rfl
@[simp] theorem qj9 : qAA BB.P 138 = 8 := rfl
@[simp] theorem qn8 : qAA Tryz.prog 139 = 8 := rfl
@[simp] theorem qfU : qAA BB.P 139 = 8 := rfl
@[simp] theorem qp0 : qAA Tryz.prog 140 = 8 := rfl
@[simp] theorem qjB : qAA BB.P 140 = 8 := rfl
@[simp] theorem qqZ : qAA Tryz.prog 141 = 8 := rfl
@[simp] theorem qh2 : qAA BB.P 141 = 8 := rfl
@[simp] theorem qr0 : qAA Tryz.prog 142 = 8 := rfl
@[simp] theorem qfQ : qAA BB.P 142 = 8 := rfl
@[simp] theorem qo6 : qAA Tryz.prog 143 = 8 := rfl
@[simp] theorem qf8 : qAA BB.P 143 = 8 := rfl
@[simp] theorem qqD : qAA Tryz.prog 144 = 8 := rfl
@[simp] theorem qkR : qAA BB.P 144 = 8 := rfl
@[simp] theorem qoX : qAA Tryz.prog 145 = 8 := rfl
@[simp] theorem qiV : qAA BB.P 145 = 8 := rfl
@[simp] theorem qnH : qAA Tryz.prog 146 = 8 := rfl
@[simp] theorem qh4 : qAA BB.P 146 = 8 := rfl
@[simp] theorem qrW : qAA Tryz.prog 147 = 8 := rfl
@[simp] theorem qh8 : qAA BB.P 147 = 8 := rfl
@[simp] theorem qrB : qAA Tryz.prog 148 = 8 := rfl
@[simp] theorem qgR : qAA BB.P 148 = 8 := rfl
@[simp] theorem qmF : qAA Tryz.prog 149 = 16 := rfl
@[simp] theorem qgQ : qAA BB.P 149 = 16 := rfl
@[simp] theorem qmO : qAA Tryz.prog 150 = 16 := rfl
@[simp] theorem qgI : qAA BB.P 150 = 16 := rfl
@[simp] theorem qtG : qAA Tryz.prog 152 = 8 := rfl
@[simp] theorem qf0 : qAA BB.P 152 = 8 := rfl
@[simp] theorem qmX : qAA Tryz.prog 153 = 8 := rfl
@[simp] theorem qgY : qAA BB.P 153 = 8 := rfl
@[simp] theorem qoJ : qAA Tryz.prog 154 = 8 := rfl
@[simp] theorem qlH : qAA BB.P 154 = 8 := rfl
@[simp] theorem qp4 : qAA Tryz.prog 155 = 8 := rfl
@[simp] theorem qhE : qAA BB.P 155 = 8 := rfl
@[simp] theorem qoP : qAA Tryz.prog 156 = 8 := rfl
@[simp] theorem qiR : qAA BB.P 156 = 8 := rfl
@[simp] theorem qsI : qAA Tryz.prog 157 = 8 := rfl
@[simp] theorem qkC : qAA BB.P 157 = 8 := rfl
@[simp] theorem qmQ : qAA Tryz.prog 158 = 8 := rfl
@[simp] theorem qfX : qAA BB.P 158 = 8 := rfl
@[simp] theorem qn2 : qAA Tryz.prog 159 = 8 := rfl
@[simp] theorem qj1 : qAA BB.P 159 = 8 := rfl
@[simp] theorem qmI : qAA Tryz.prog 160 = 8 := rfl
@[simp] theorem qfZ : qAA BB.P 160 = 8 := rfl
@[simp] theorem qqP : qAA Tryz.prog 161 = 16 := rfl
@[simp] theorem qhW : qAA BB.P 161 = 16 := rfl
@[simp] theorem qoQ : qAA Tryz.prog 162 = 16 := rfl
@[simp] theorem qhF : qAA BB.P 162 = 16 := rfl
@[simp] theorem qnP : qAA Tryz.prog 163 = 72 := rfl
@[simp] theorem qlZ : qAA BB.P 163 = 72 := rfl
@[simp] theorem qpT : qAA Tryz.prog 164 = 72 := rfl
@[simp] theorem qlU : qAA BB.P 164 = 72 := rfl
@[simp] theorem ql2 : qAA Tryz.prog 165 = 8 := rfl
@[simp] theorem qi5 : qAA BB.P 165 = 8 := rfl
@[simp] theorem qnW : qAA Tryz.prog 166 = 8 := rfl
@[simp] theorem qlK : qAA BB.P 166 = 8 := rfl
@[simp] theorem qpV : qAA Tryz.prog 167 = 8 := rfl
@[simp] theorem qjA : qAA BB.P 167 = 8 := rfl
@[simp] theorem qo3 : qAA Tryz.prog 169 = 8 := rfl
@[simp] theorem qjV : qAA BB.P 169 = 8 := rfl
@[simp] theorem qoR : qAA Tryz.prog 170 = 8 := rfl
@[simp] theorem qlE : qAA BB.P 170 = 8 := rfl
@[simp] theorem qmR : qAA Tryz.prog 171 = 16 := rfl
@[simp] theorem qhZ : qAA BB.P 171 = 16 := rfl
@[simp] theorem qtA : qAA Tryz.prog 172 = 16 := rfl
@[simp] theorem qkS : qAA BB.P 172 = 16 := rfl
@[simp] theorem qmP : qAA Tryz.prog 173 = 24 := rfl
@[simp] theorem qfT : qAA BB.P 173 = 24 := rfl
@[simp] theorem qn7 : qAA Tryz.prog 174 = 8 := rfl
@[simp] theorem qfG : qAA BB.P 174 = 8 := rfl
@[simp] theorem qnF : qAA Tryz.prog 175 = 8 := rfl
@[simp] theorem qgK : qAA BB.P 175 = 8 := rfl
@[simp] theorem qr8 : qAA Tryz.prog 176 = 8 := rfl
@[simp] theorem qfL : qAA BB.P 176 = 8 := rfl
@[simp] theorem qs7 : qAA Tryz.prog 177 = 8 := rfl
@[simp] theorem qf3 : qAA BB.P 177 = 8 := rfl
@[simp] theorem qoL : qAA Tryz.prog 178 = 24 := rfl
@[simp] theorem qfY : qAA BB.P 178 = 24 := rfl
@[simp] theorem qsR : qAA Tryz.prog 179 = 8 := rfl
@[simp] theorem qfK : qAA BB.P 179 = 8 := rfl
@[simp] theorem qrV : qAA Tryz.prog 180 = 8 := rfl
@[simp] theorem qj8 : qAA BB.P 180 = 8 := rfl
@[simp] theorem qr9 : qAA Tryz.prog 181 = 8 := rfl
@[simp] theorem qfV : qAA BB.P 181 = 8 := rfl
@[simp] theorem qn4 : qAA Tryz.prog 182 = 8 := rfl
@[simp] theorem qkU : qAA BB.P 182 = 8 := rfl
@[simp] theorem qtE : qAA Tryz.prog 183 = 8 := rfl
@[simp] theorem qlA : qAA BB.P 183 = 8 := rfl
@[simp] theorem qpH : qAA Tryz.prog 184 = 8 := rfl
@[simp] theorem qkB : qAA BB.P 184 = 8 := rfl
@[simp] theorem qnY : qAA Tryz.prog 185 = 8 := rfl
@[simp] theorem qhS : qAA BB.P 185 = 8 := rfl
@[simp] theorem qmD : qAA Tryz.prog 186 = 8 := rfl
@[simp] theorem qgG : qAA BB.P 186 = 8 := rfl
@[simp] theorem qtD : qAA Tryz.prog 187 = 8 := rfl
@[simp] theorem qf5 : qAA BB.P 187 = 8 := rfl
@[simp] theorem qqF : qAA Tryz.prog 188 = 8 := rfl
@[simp] theorem qg5 : qAA BB.P 188 = 8 := rfl
@[simp] theorem qtK : qAA Tryz.prog 189 = 8 := rfl
@[simp] theorem qgP : qAA BB.P 189 = 8 := rfl
@[simp] theorem qp7 : qAA Tryz.prog 190 = 32 := rfl
@[simp] theorem qh3 : qAA BB.P 190 = 32 := rfl
@[simp] theorem qs5 : qAA Tryz.prog 191 = 32 := rfl
@[simp] theorem qjL : qAA BB.P 191 = 32 := rfl
@[simp] theorem qqY : qAA Tryz.prog 192 = 8 := rfl
@[simp] theorem qh7 : qAA BB.P 192 = 8 := rfl
@[simp] theorem qp9 : qAA Tryz.prog 193 = 16 := rfl
@[simp] theorem qlG : qAA BB.P 193 = 16 := rfl
@[simp] theorem qpI : qAA Tryz.prog 194 = 16 := rfl
@[simp] theorem qiJ : qAA BB.P 194 = 16 := rfl
@[simp] theorem qn3 : qAA Tryz.prog 196 = 8 := rfl
@[simp] theorem qfI : qAA BB.P 196 = 8 := rfl
@[simp] theorem qs4 : qAA Tryz.prog 197 = 8 := rfl
@[simp] theorem qiN : qAA BB.P 197 = 8 := rfl
@[simp] theorem qs2 : qAA Tryz.prog 198 = 24 := rfl
@[simp] theorem qkL : qAA BB.P 198 = 24 := rfl
@[simp] theorem qpS : qAA Tryz.prog 199 = 16 := rfl
@[simp] theorem qhD : qAA BB.P 199 = 16 := rfl
@[simp] theorem qnO : qAA Tryz.prog 200 = 16 := rfl
@[simp] theorem qiB : qAA BB.P 200 = 16 := rfl
@[simp] theorem qnK : qAA Tryz.prog 201 = 8 := rfl
@[simp] theorem qjX : qAA BB.P 201 = 8 := rfl
@[simp] theorem qtL : qAA Tryz.prog 202 = 8 := rfl
@[simp] theorem qj7 : qAA BB.P 202 = 8 := rfl
@[simp] theorem qs8 : qAA Tryz.prog 203 = 8 := rfl
@[simp] theorem qkF : qAA BB.P 203 = 8 := rfl
@[simp] theorem qnR : qAA Tryz.prog 204 = 8 := rfl
@[simp] theorem qf4 : qAA BB.P 204 = 8 := rfl
@[simp] theorem qtH : qAA Tryz.prog 205 = 8 := rfl
@[simp] theorem qkV : qAA BB.P 205 = 8 := rfl
@[simp] theorem qmA : qAA Tryz.prog 206 = 8 := rfl
@[simp] theorem qjW : qAA BB.P 206 = 8 := rfl
@[simp] theorem qrN : qAA Tryz.prog 207 = 8 := rfl
@[simp] theorem qkM : qAA BB.P 207 = 8 := rfl
@[simp] theorem qoD : qAA Tryz.prog 208 = 8 := rfl
@[simp] theorem qk4 : qAA BB.P 208 = 8 := rfl
@[simp] theorem qr7 : qAA Tryz.prog 210 = 8 := rfl
@[simp] theorem qfW : qAA BB.P 210 = 8 := rfl
@[simp] theorem qpM : qAA Tryz.prog 211 = 8 := rfl
@[simp] theorem qlW : qAA BB.P 211 = 8 := rfl
@[simp] theorem qrR : qAA Tryz.prog 212 = 8 := rfl
@[simp] theorem qe8 : qAA BB.P 212 = 8 := rfl
@[simp] theorem qsS : qAA Tryz.prog 213 = 8 := rfl
@[simp] theorem qgZ : qAA BB.P 213 = 8 := rfl
@[simp] theorem qpO : qAA Tryz.prog 214 = 8 := rfl
@[simp] theorem qk3 : qAA BB.P 214 = 8 := rfl
@[simp] theorem qmH : qAA Tryz.prog 215 = 8 := rfl
@[simp] theorem qjH : qAA BB.P 215 = 8 := rfl
@[simp] theorem qsB : qAA Tryz.prog 216 = 8 := rfl
@[simp] theorem qf9 : qAA BB.P 216 = 8 := rfl
@[simp] theorem qqT : qAA Tryz.prog 217 = 8 := rfl
@[simp] theorem qgV : qAA BB.P 217 = 8 := rfl
@[simp] theorem qnU : qAA Tryz.prog 219 = 8 := rfl
@[simp] theorem qgO : qAA BB.P 219 = 8 := rfl
@[simp] theorem qo5 : qAA Tryz.prog 220 = 8 := rfl
@[simp] theorem qf1 : qAA BB.P 220 = 8 := rfl
@[simp] theorem qqA : qAA Tryz.prog 221 = 8 := rfl
@[simp] theorem qkJ : qAA BB.P 221 = 8 := rfl
@[simp] theorem qmS : qAA Tryz.prog 222 = 8 := rfl
@[simp] theorem qgT : qAA BB.P 222 = 8 := rfl
@[simp] theorem qrJ : qAA Tryz.prog 223 = 8 := rfl
@[simp] theorem qi0 : qAA BB.P 223 = 8 := rfl
@[simp] theorem qsC : qAA Tryz.prog 224 = 8 := rfl
@[simp] theorem qhP : qAA BB.P 224 = 8 := rfl
@[simp] theorem qrQ : qAA Tryz.prog 225 = 8 := rfl
@[simp] theorem qjR : qAA BB.P 225 = 8 := rfl
@[simp] theorem qnT : qAA Tryz.prog 226 = 8 := rfl
@[simp] theorem qhK : qAA BB.P 226 = 8 := rfl
@[simp] theorem qqM : qAA Tryz.prog 227 = 8 := rfl
@[simp] theorem qhX : qAA BB.P 227 = 8 := rfl
@[simp] theorem qmK : qAA Tryz.prog 228 = 8 := rfl
@[simp] theorem qiK : qAA BB.P 228 = 8 := rfl
@[simp] theorem qsO : qAA Tryz.prog 229 = 8 := rfl
@[simp] theorem qlR : qAA BB.P 229 = 8 := rfl
@[simp] theorem qm7 : qAA Tryz.prog 230 = 8 := rfl
@[simp] theorem qi6 : qAA BB.P 230 = 8 := rfl
@[simp] theorem qoS : qAA Tryz.prog 231 = 4 := rfl
@[simp] theorem qiD : qAA BB.P 231 = 4 := rfl
@[simp] theorem qmZ : qAA Tryz.prog 233 = 8 := rfl
@[simp] theorem qlP : qAA BB.P 233 = 8 := rfl
@[simp] theorem qo2 : qAA Tryz.prog 234 = 8 := rfl
@[simp] theorem ql0 : qAA BB.P 234 = 8 := rfl
@[simp] theorem qmU : qAA Tryz.prog 235 = 8 := rfl
@[simp] theorem qfN : qAA BB.P 235 = 8 := rfl
@[simp] theorem qo0 : qAA Tryz.prog 236 = 8 := rfl
@[simp] theorem qlV : qAA BB.P 236 = 8 := rfl
@[simp] theorem qpF : qAA Tryz.prog 237 = 8 := rfl
@[simp] theorem qjS : qAA BB.P 237 = 8 := rfl
@[simp] theorem qmL : qAA Tryz.prog 238 = 8 := rfl
@[simp] theorem qiI : qAA BB.P 238 = 8 := rfl
@[simp] theorem qoB : qAA Tryz.prog 240 = 8 := rfl
@[simp] theorem qgH : qAA BB.P 240 = 8 := rfl
@[simp] theorem qsM : qAA Tryz.prog 242 = 8 := rfl
@[simp] theorem qkQ : qAA BB.P 242 = 8 := rfl
@[simp] theorem qtF : qAA Tryz.prog 243 = 8 := rfl
@[simp] theorem qjG : qAA BB.P 243 = 8 := rfl
@[simp] theorem qmE : qAA Tryz.prog 244 = 8 := rfl
@[simp] theorem qgA : qAA BB.P 244 = 8 := rfl
@[simp] theorem qrT : qAA Tryz.prog 245 = 8 := rfl
@[simp] theorem qlC : qAA BB.P 245 = 8 := rfl
@[simp] theorem qp3 : qAA Tryz.prog 246 = 8 := rfl
@[simp] theorem qhL : qAA BB.P 246 = 8 := rfl
@[simp] theorem qqV : qAA Tryz.prog 247 = 8 := rfl
@[simp] theorem qiY : qAA BB.P 247 = 8 := rfl
@[simp] theorem qnD : qAA Tryz.prog 248 = 8 := rfl
@[simp] theorem qgD : qAA BB.P 248 = 8 := rfl
@[simp] theorem qrS : qAA Tryz.prog 249 = 8 := rfl
@[simp] theorem qgM : qAA BB.P 249 = 8 := rfl
@[simp] theorem qrG : qAA Tryz.prog 250 = 8 := rfl
@[simp] theorem qiZ : qAA BB.P 250 = 8 := rfl
@[simp] theorem qqC : qAA Tryz.prog 251 = 8 := rfl
@[simp] theorem qiH : qAA BB.P 251 = 8 := rfl
@[simp] theorem qsY : qAA Tryz.prog 252 = 8 := rfl
@[simp] theorem qhR : qAA BB.P 252 = 8 := rfl
@[simp] theorem qo9 : qAA Tryz.prog 253 = 8 := rfl
@[simp] theorem qhN : qAA BB.P 253 = 8 := rfl
@[simp] theorem qq8 : qAA Tryz.prog 255 = 8 := rfl
@[simp] theorem qkW : qAA BB.P 255 = 8 := rfl
@[simp] theorem qnM : qAA Tryz.prog 256 = 8 := rfl
@[simp] theorem qkD : qAA BB.P 256 = 8 := rfl
@[simp] theorem qq7 : qAA Tryz.prog 257 = 8 := rfl
@[simp] theorem qgC : qAA BB.P 257 = 8 := rfl
@[simp] theorem qrL : qAA Tryz.prog 258 = 8 := rfl
@[simp] theorem qiM : qAA BB.P 258 = 8 := rfl
@[simp] theorem qsL : qAA Tryz.prog 259 = 8 := rfl
@[simp] theorem qh5 : qAA BB.P 259 = 8 := rfl
@[simp] theorem qrE : qAA Tryz.prog 260 = 8 := rfl
@[simp] theorem qiU : qAA BB.P 260 = 8 := rfl
@[simp] theorem qoU : qAA Tryz.prog 261 = 8 := rfl
@[simp] theorem qfA : qAA BB.P 261 = 8 := rfl
@[simp] theorem qm0 : qAA Tryz.prog 263 = 8 := rfl
@[simp] theorem qhI : qAA BB.P 263 = 8 := rfl
@[simp] theorem qpU : qAA Tryz.prog 264 = 8 := rfl
@[simp] theorem qjY : qAA BB.P 264 = 8 := rfl
@[simp] theorem qp2 : qAA Tryz.prog 265 = 8 := rfl
@[simp] theorem qi4 : qAA BB.P 265 = 8 := rfl
@[simp] theorem qrO : qAA Tryz.prog 267 = 8 := rfl
@[simp] theorem qkN : qAA BB.P 267 = 8 := rfl
@[simp] theorem qn6 : qAA Tryz.prog 268 = 8 := rfl
@[simp] theorem qh9 : qAA BB.P 268 = 8 := rfl
@[simp] theorem qqO : qAA Tryz.prog 269 = 8 := rfl
@[simp] theorem qgS : qAA BB.P 269 = 8 := rfl
@[simp] theorem qrK : qAA Tryz.prog 270 = 8 := rfl
@[simp] theorem qjF : qAA BB.P 270 = 8 := rfl
@[simp] theorem qmW : qAA Tryz.prog 271 = 8 := rfl
@[simp] theorem qiG : qAA BB.P 271 = 8 := rfl
@[simp] theorem qrI : qAA Tryz.prog 272 = 8 := rfl
@[simp] theorem qjK : qAA BB.P 272 = 8 := rfl
@[simp] theorem qp5 : qAA Tryz.prog 273 = 8 := rfl
@[simp] theorem qj3 : qAA BB.P 273 = 8 := rfl
@[simp] theorem qtB : qAA Tryz.prog 274 = 8 := rfl
@[simp] theorem qjD : qAA BB.P 274 = 8 := rfl
@[simp] theorem qoZ : qAA Tryz.prog 275 = 8 := rfl
@[simp] theorem qfM : qAA BB.P 275 = 8 := rfl
@[simp] theorem qpG : qAA Tryz.prog 277 = 8 := rfl
@[simp] theorem qhA : qAA BB.P 277 = 8 := rfl
@[simp] theorem qnS : qAA Tryz.prog 278 = 8 := rfl
@[simp] theorem qlX : qAA BB.P 278 = 8 := rfl
@[simp] theorem ql4 : qAA Tryz.prog 280 = 8 := rfl
@[simp] theorem qk7 : qAA BB.P 280 = 8 := rfl
@[simp] theorem qr4 : qAA Tryz.prog 281 = 40 := rfl
@[simp] theorem qg1 : qAA BB.P 281 = 40 := rfl
@[simp] theorem qqE : qAA Tryz.prog 282 = 40 := rfl
@[simp] theorem qjO : qAA BB.P 282 = 40 := rfl
@[simp] theorem qr5 : qAA Tryz.prog 286 = 8 := rfl
@[simp] theorem qg4 : qAA BB.P 286 = 8 := rfl
@[simp] theorem qrX : qAA Tryz.prog 287 = 1 := rfl
@[simp] theorem qiT : qAA BB.P 287 = 1 := rfl
@[simp] theorem qmN : qAA Tryz.prog 288 = 1 := rfl
@[simp] theorem qlN : qAA BB.P 288 = 1 := rfl
@[simp] theorem ql3 : qAA Tryz.prog 289 = 8 := rfl
@[simp] theorem qkI : qAA BB.P 289 = 8 := rfl
@[simp] theorem qoI : qAA Tryz.prog 290 = 4 := rfl
@[simp] theorem qjT : qAA BB.P 290 = 4 := rfl
@[simp] theorem qp8 : qAA Tryz.prog 291 = 4 := rfl
@[simp] theorem qlB : qAA BB.P 291 = 4 := rfl
@[simp] theorem qoF : qAA Tryz.prog 292 = 48 := rfl
@[simp] theorem qhM : qAA BB.P 292 = 48 := rfl
@[simp] theorem qs0 : qAA Tryz.prog 293 = 48 := rfl
@[simp] theorem qfR : qAA BB.P 293 = 48 := rfl
theorem qkA (x : UInt8) : 0 ≤ (x.toNat : Int) ∧ (x.toNat : Int) ≤ 255 := by have := x.toNat_lt;omega
theorem obA {p : Prop} (h : p := by first|exact Ob.mk (qkA _)|(refine Ob.mk ?_;first|exact True.intro|assumption|omega|(simp only [ZA,ZB,ZC,ZD,ZE,ZF,ZG,ZH,ZI,ZJ,ZK,ZL,ZM,ZN,ZO,Int.toNat_natCast,UInt8.ofNat_toNat,cast_eq] at *;omega)|(show (_:Int) = _;omega)|(show qRL _ = _;with_unfolding_all rfl)|((first|show (_:Nat) ≤ _|show (_:Nat) ≤ _ ∧ (_:Nat) ≤ _|show (_:Int) ≤ _ ∧ (_:Int) ≤ _ ∧ (_:Int) ≤ _ ∧ (_:Int) ≤ _);(simp <;> omega)))|(show (_:Int) = _;omega)|(show qRL _ = _;with_unfolding_all rfl)|((first|show (_:Nat) ≤ _|show (_:Nat) ≤ _ ∧ (_:Nat) ≤ _|show (_:Int) ≤ _ ∧ (_:Int) ≤ _ ∧ (_:Int) ≤ _ ∧ (_:Int) ≤ _);(simp <;> omega))) : p := h
theorem vcA {p : Prop} (h : p := by (repeat' ((conv => whnf);first|(with_reducible first|rfl|exact qAF|exact qAG)|exact True.intro|intro _|refine WA ?_ ?_|refine WF ?_|refine W1 rfl ?_ ?_|refine W2 rfl ?_ ?_|refine W3 rfl ?_ ?_|refine W4 ?_ ?_|refine W5 rfl ?_ ?_|refine W6 ?_ ?_|refine WN ?_|refine X1 (W1 rfl ?_ ?_)|refine X1 (W2 rfl ?_ ?_)|refine X2 (W7 rfl ?_ ?_)|refine X3 (W7 rfl ?_ ?_)|refine X4 (W7 rfl ?_ ?_)|refine X5 (W7 rfl ?_ ?_)));(all_goals (try (conv => whnf)));(all_goals (try first|exact obA|refine Ob.mk ?_));(all_goals (try rfl))) : p := h
end Go.Vc

namespace Go.Vc.W
open Go.Proofs
def isSp (c : Int) : Bool := c == 9 || c == 10 || c == 12 || c == 13 || c == 32
set_option maxRecDepth 10000
instance f31 (c : Int) : Fn BB 138 [.int .u8 c] True (.bool (isSp c)) := by
 refine Fn.intro (N := 10) [0,2,3,4] [] Tryz.call138 Tryz.func138 rfl rfl (by kernel_rfl) (fun hpre => ?_)
 repeat' ((conv => whnf);first|(with_reducible first|rfl|exact qAF|exact qAG)|exact True.intro|intro _|refine WA ?_ ?_|refine WF ?_|refine W1 rfl ?_ ?_|refine W2 rfl ?_ ?_|refine W3 rfl ?_ ?_|refine W4 ?_ ?_|refine W5 rfl ?_ ?_|refine W6 ?_ ?_|refine WN ?_|refine X1 (W1 rfl ?_ ?_)|refine X1 (W2 rfl ?_ ?_)|refine X2 (W7 rfl ?_ ?_)|refine X3 (W7 rfl ?_ ?_)|refine X4 (W7 rfl ?_ ?_)|refine X5 (W7 rfl ?_ ?_))
 all_goals (try (conv => whnf))
 all_goals (simp_all [isSp];done)
instance f40 (c : Int) : Fn BB 149 [.int .u8 c] True (.bool (isSp c)) := by
 refine Fn.intro (N := 21) [0,2] [] Tryz.call149 Tryz.func149 rfl rfl (by kernel_rfl) (fun hpre => ?_)
 repeat' ((conv => whnf);first|(with_reducible first|rfl|exact qAF|exact qAG)|exact True.intro|intro _|refine WA ?_ ?_|refine WF ?_|refine W1 rfl ?_ ?_|refine W2 rfl ?_ ?_|refine W3 rfl ?_ ?_|refine W4 ?_ ?_|refine W5 rfl ?_ ?_|refine W6 ?_ ?_|refine WN ?_|refine X1 (W1 rfl ?_ ?_)|refine X1 (W2 rfl ?_ ?_)|refine X2 (W7 rfl ?_ ?_)|refine X3 (W7 rfl ?_ ?_)|refine X4 (W7 rfl ?_ ?_)|refine X5 (W7 rfl ?_ ?_))
 all_goals (try (conv => whnf))
 all_goals (simp_all [isSp];done)
theorem take_snoc {α : Type} (l : List α) (i : Nat) (d : α) (h : i < l.length) : l.take (i + 1) = l.take i ++ [l.getD i d] := by
 rw [List.take_succ_eq_append_getElem h];simp [List.getD,List.getElem?_eq_getElem h]
theorem qFY (l : List (List UInt8)) (i : Nat) (w : List UInt8) (h : i < l.length) : (l.take (i+1)).contains w = ((l.take i).contains w || (l.getD i [] == w)) := by
 rw [take_snoc l i [] h]
 simp only [List.contains_eq_any_beq,List.any_append,List.any_cons,List.any_nil,Bool.or_false]
 congr 1
 exact Bool.beq_comm
instance f34 (l : List (List UInt8)) (w : List UInt8) : Fn BB 131 [.rd .str l,.str w] True (.bool (l.contains w)) := by
 refine Fn.intro (N := 18) [0,1,4,5,9,17] [] Tryz.call131 Tryz.func131 rfl rfl (by kernel_rfl) (fun hpre => ?_)
 (conv => whnf)
 refine LoopStop.mk (α := Nat) (fun i => [(5,.int .i64 i)]) (fun _ => []) 0 (fun i => i ≤ l.length ∧ (l.take i).contains w = false) (fun i => l.length - i) 0 (by simp) ?_ (fun i hi => ?_)
 ·repeat' ((conv => whnf);first|(with_reducible first|rfl|exact qAF|exact qAG)|exact True.intro|intro _|refine WA ?_ ?_|refine WF ?_|refine W1 rfl ?_ ?_|refine W2 rfl ?_ ?_|refine W3 rfl ?_ ?_|refine W4 ?_ ?_|refine W5 rfl ?_ ?_|refine W6 ?_ ?_|refine WN ?_|refine X1 (W1 rfl ?_ ?_)|refine X1 (W2 rfl ?_ ?_)|refine X2 (W7 rfl ?_ ?_)|refine X3 (W7 rfl ?_ ?_)|refine X4 (W7 rfl ?_ ?_)|refine X5 (W7 rfl ?_ ?_))
  all_goals (try (conv => whnf))
  all_goals (try rfl)
 ·repeat' ((conv => whnf);first|(with_reducible first|rfl|exact qAF|exact qAG)|exact True.intro|intro _|refine WA ?_ ?_|refine WF ?_|refine W1 rfl ?_ ?_|refine W2 rfl ?_ ?_|refine W3 rfl ?_ ?_|refine W4 ?_ ?_|refine W5 rfl ?_ ?_|refine W6 ?_ ?_|refine WN ?_|refine X1 (W1 rfl ?_ ?_)|refine X1 (W2 rfl ?_ ?_)|refine X2 (W7 rfl ?_ ?_)|refine X3 (W7 rfl ?_ ?_)|refine X4 (W7 rfl ?_ ?_)|refine X5 (W7 rfl ?_ ?_))
  all_goals (try (conv => whnf))
  all_goals (try first|exact obA|refine Ob.mk ?_)
  all_goals (try simp only [ZA,ZB,ZC,ZD,ZE,ZF,ZG,ZH,ZI,ZJ,ZK,ZL,ZM,ZN,ZO,Int.toNat_natCast,UInt8.ofNat_toNat,cast_eq] at *)
  ·rename_i h1 h2 h3
   have h4 : i < l.length := by omega
   rw [← h3];simp [List.getD,List.getElem?_eq_getElem h4]
  ·rename_i h1 h2 h3
   have h4 : i < l.length := by omega
   refine Rnd.mk ⟨i + 1,?_,?_,?_⟩
   ·refine ⟨by omega,?_⟩
    rw [qFY l i w h4,hi.2,Bool.false_or];exact beq_eq_false_iff_ne.mpr h3
   ·omega
   ·all_goals exact vcA
  ·rename_i h1 h2
   have : i = l.length := by omega
   subst this;simp_all
end Go.Vc.W

namespace Go.Vc.W
open Go.Proofs
set_option maxRecDepth 10000
def qD6 (p : List (List UInt8) × List UInt8) (c : UInt8) : List (List UInt8) × List UInt8 :=
 if isSp c.toNat then (if p.2 = [] then (p.1,[]) else (p.1 ++ [p.2],[])) else (p.1,p.2 ++ [c])
def qcI (p : List (List UInt8) × List UInt8) : List (List UInt8) := if p.2 = [] then p.1 else p.1 ++ [p.2]
def spl (s : List UInt8) : List (List UInt8) := qcI (s.foldl qD6 ([],[]))
def qEH (s : List UInt8) (i : Nat) : List (List UInt8) × List UInt8 := (s.take i).foldl qD6 ([],[])
theorem qCE (s : List UInt8) (i : Nat) (h : i < s.length) : qEH s (i + 1) = qD6 (qEH s i) (s.getD i 0) := by
 unfold qEH;rw [take_snoc s i 0 h,List.foldl_append];rfl
theorem qJN (s : List UInt8) (i : Nat) (h : s.length ≤ i) : qEH s i = s.foldl qD6 ([],[]) := by
 unfold qEH;rw [List.take_of_length_le h]
theorem qUW (p : List (List UInt8) × List UInt8) (c : UInt8) : (qD6 p c).1.length + (qD6 p c).2.length ≤ p.1.length + p.2.length + 1 := by
 unfold qD6
 by_cases h : isSp c.toNat = true
 ·by_cases h2 : p.2 = []
  ·simp [h,h2]
  ·have := List.length_pos_iff.mpr h2
   simp [h,h2]
 ·simp [h];omega
theorem qTM (s : List UInt8) (i : Nat) : (qEH s i).1.length + (qEH s i).2.length ≤ i := by
 induction i with
 | zero => simp [qEH]
 | succ i ih =>
  by_cases h : i < s.length
  ·rw [qCE s i h];have := qUW (qEH s i) (s.getD i 0);omega
  ·have e : qEH s (i+1) = qEH s i := by rw [qJN s (i+1) (by omega),qJN s i (by omega)]
   rw [e];exact Nat.le_succ_of_le ih
theorem qMT (s : List UInt8) (i : Nat) (h : i < s.length) : (s.take (i+1)).drop i = [s.getD i 0] := by
 rw [take_snoc s i 0 h,List.drop_append,List.length_take,Nat.min_eq_left (by omega)];simp
theorem qMU (i : Nat) : ((i:Int)+1).toNat = i+1 := by omega
theorem qZO {s : List UInt8} {i : Nat} (h : s.length ≤ i) (h2 : ¬ (qEH s i).2 = []) : spl s = (qEH s i).1 ++ [(qEH s i).2] := by
 unfold spl;rw [← qJN s i h];simp [qcI,h2]
theorem qaF {s : List UInt8} {i : Nat} (h : s.length ≤ i) (h2 : (qEH s i).2 = []) : spl s = (qEH s i).1 := by
 unfold spl;rw [← qJN s i h];simp [qcI,h2]
theorem qGW {p : List (List UInt8) × List UInt8} {c : UInt8} (h : isSp c.toNat = false) : qD6 p c = (p.1,p.2 ++ [c]) := by
 simp [qD6,h]
theorem qG6 {p : List (List UInt8) × List UInt8} {c : UInt8} (h : isSp c.toNat = true) (h2 : p.2 = []) : qD6 p c = (p.1,[]) := by
 simp [qD6,h,h2]
theorem qFZ {p : List (List UInt8) × List UInt8} {c : UInt8} (h : isSp c.toNat = true) (h2 : ¬ p.2 = []) : qD6 p c = (p.1 ++ [p.2],[]) := by
 simp [qD6,h,h2]
instance f35 (s : List UInt8) : Fn BB 104 [.str s] (s.length ≤ 100000) (.rd .str (spl s)) := by
 refine Fn.intro (N := 37) [0,2,3,4,5,9,16,25,31] [] Tryz.call104 Tryz.func104 rfl rfl (by kernel_rfl) (fun hpre => ?_)
 (conv => whnf)
 refine LoopStop.mk (α := Nat) (fun i => [(3,.own 0),(4,.str (qEH s i).2),(5,.int .i64 i)]) (fun i => [(0,.own .str (qEH s i).1)]) 1 (fun i => i ≤ s.length) (fun i => s.length - i) 0 (by simp) ?_ (fun i hi => ?_)
 ·repeat' ((conv => whnf);first|(with_reducible first|rfl|exact qAF|exact qAG)|exact True.intro|intro _|refine WA ?_ ?_|refine WF ?_|refine W1 rfl ?_ ?_|refine W2 rfl ?_ ?_|refine W3 rfl ?_ ?_|refine W4 ?_ ?_|refine W5 rfl ?_ ?_|refine W6 ?_ ?_|refine WN ?_|refine X1 (W1 rfl ?_ ?_)|refine X1 (W2 rfl ?_ ?_)|refine X2 (W7 rfl ?_ ?_)|refine X3 (W7 rfl ?_ ?_)|refine X4 (W7 rfl ?_ ?_)|refine X5 (W7 rfl ?_ ?_))
  all_goals (try (conv => whnf))
  all_goals (try rfl)
 ·have hl := qTM s i
  repeat' ((conv => whnf);first|(with_reducible first|rfl|exact qAF|exact qAG)|exact True.intro|intro _|refine WA ?_ ?_|refine WF ?_|refine W1 rfl ?_ ?_|refine W2 rfl ?_ ?_|refine W3 rfl ?_ ?_|refine W4 ?_ ?_|refine W5 rfl ?_ ?_|refine W6 ?_ ?_|refine WN ?_|refine X1 (W1 rfl ?_ ?_)|refine X1 (W2 rfl ?_ ?_)|refine X2 (W7 rfl ?_ ?_)|refine X3 (W7 rfl ?_ ?_)|refine X4 (W7 rfl ?_ ?_)|refine X5 (W7 rfl ?_ ?_))
  all_goals (try (conv => whnf))
  all_goals (try first|exact obA|refine Ob.mk ?_)
  all_goals (try simp only [ZA,ZB,ZC,ZD,ZE,ZF,ZG,ZH,ZI,ZJ,ZK,ZL,ZM,ZN,ZO,Int.toNat_natCast,UInt8.ofNat_toNat,cast_eq] at *)
  ·have h : i < s.length := by omega
   have e := qCE s i h
   rw [qGW ‹_›] at e
   refine Rnd.mk ⟨i + 1,?_,?_,?_⟩
   ·exact h
   ·omega
   ·repeat' ((conv => whnf);first|(with_reducible first|rfl|exact qAF|exact qAG)|exact True.intro|intro _|refine WA ?_ ?_|refine WF ?_|refine W1 rfl ?_ ?_|refine W2 rfl ?_ ?_|refine W3 rfl ?_ ?_|refine W4 ?_ ?_|refine W5 rfl ?_ ?_|refine W6 ?_ ?_|refine WN ?_|refine X1 (W1 rfl ?_ ?_)|refine X1 (W2 rfl ?_ ?_)|refine X2 (W7 rfl ?_ ?_)|refine X3 (W7 rfl ?_ ?_)|refine X4 (W7 rfl ?_ ?_)|refine X5 (W7 rfl ?_ ?_))
    all_goals (try (conv => whnf))
    all_goals (try first|exact obA|refine Ob.mk ?_)
    all_goals (simp only [e,qMU,qMT s i h];done)
  ·skip
   have h : i < s.length := by omega
   have e := qCE s i h
   rw [qFZ ‹_› ‹_›] at e
   repeat' ((conv => whnf);first|(with_reducible first|rfl|exact qAF|exact qAG)|exact True.intro|intro _|refine WA ?_ ?_|refine WF ?_|refine W1 rfl ?_ ?_|refine W2 rfl ?_ ?_|refine W3 rfl ?_ ?_|refine W4 ?_ ?_|refine W5 rfl ?_ ?_|refine W6 ?_ ?_|refine WN ?_|refine X1 (W1 rfl ?_ ?_)|refine X1 (W2 rfl ?_ ?_)|refine X2 (W7 rfl ?_ ?_)|refine X3 (W7 rfl ?_ ?_)|refine X4 (W7 rfl ?_ ?_)|refine X5 (W7 rfl ?_ ?_))
   all_goals (try (conv => whnf))
   all_goals (try first|exact obA|refine Ob.mk ?_)
   refine Rnd.mk ⟨i + 1,?_,?_,?_⟩
   ·exact h
   ·omega
   ·repeat' ((conv => whnf);first|(with_reducible first|rfl|exact qAF|exact qAG)|exact True.intro|intro _|refine WA ?_ ?_|refine WF ?_|refine W1 rfl ?_ ?_|refine W2 rfl ?_ ?_|refine W3 rfl ?_ ?_|refine W4 ?_ ?_|refine W5 rfl ?_ ?_|refine W6 ?_ ?_|refine WN ?_|refine X1 (W1 rfl ?_ ?_)|refine X1 (W2 rfl ?_ ?_)|refine X2 (W7 rfl ?_ ?_)|refine X3 (W7 rfl ?_ ?_)|refine X4 (W7 rfl ?_ ?_)|refine X5 (W7 rfl ?_ ?_))
    all_goals (try (conv => whnf))
    all_goals (try first|exact obA|refine Ob.mk ?_)
    all_goals (simp only [e];done)
  ·have h : i < s.length := by omega
   have e := qCE s i h
   rw [qG6 ‹_› ‹_›] at e
   refine Rnd.mk ⟨i + 1,?_,?_,?_⟩
   ·exact h
   ·omega
   ·repeat' ((conv => whnf);first|(with_reducible first|rfl|exact qAF|exact qAG)|exact True.intro|intro _|refine WA ?_ ?_|refine WF ?_|refine W1 rfl ?_ ?_|refine W2 rfl ?_ ?_|refine W3 rfl ?_ ?_|refine W4 ?_ ?_|refine W5 rfl ?_ ?_|refine W6 ?_ ?_|refine WN ?_|refine X1 (W1 rfl ?_ ?_)|refine X1 (W2 rfl ?_ ?_)|refine X2 (W7 rfl ?_ ?_)|refine X3 (W7 rfl ?_ ?_)|refine X4 (W7 rfl ?_ ?_)|refine X5 (W7 rfl ?_ ?_))
    all_goals (try (conv => whnf))
    all_goals (try first|exact obA|refine Ob.mk ?_)
    all_goals (simp only [e];done)
  ·skip
   repeat' ((conv => whnf);first|(with_reducible first|rfl|exact qAF|exact qAG)|exact True.intro|intro _|refine WA ?_ ?_|refine WF ?_|refine W1 rfl ?_ ?_|refine W2 rfl ?_ ?_|refine W3 rfl ?_ ?_|refine W4 ?_ ?_|refine W5 rfl ?_ ?_|refine W6 ?_ ?_|refine WN ?_|refine X1 (W1 rfl ?_ ?_)|refine X1 (W2 rfl ?_ ?_)|refine X2 (W7 rfl ?_ ?_)|refine X3 (W7 rfl ?_ ?_)|refine X4 (W7 rfl ?_ ?_)|refine X5 (W7 rfl ?_ ?_))
   all_goals (try (conv => whnf))
   rw [qZO (i := i) (by omega) ‹_›]
  ·rw [qaF (i := i) (by omega) ‹_›]
end Go.Vc.W

namespace Go.Vc.W
open Go.Proofs
set_option maxRecDepth 10000
instance f29 (s w : List UInt8) : Fn BB 72 [.str s,.str w] (s.length ≤ 100000) (.bool ((spl s).contains w)) := by
 refine Fn.intro (N := 9) [0,1,4] [] Tryz.call72 Tryz.func72 rfl rfl (by kernel_rfl) (fun hpre => ?_)
 all_goals exact vcA
theorem qI8 {l : List (List UInt8)} {i : Nat} (h : i < l.length) : l.contains (l.getD i []) = true := by
 simp [List.getD,List.getElem?_eq_getElem h]
def qMS (l : List (List UInt8)) (w : List UInt8) : Int := if l.contains w then (l.idxOf w : Int) else -1
theorem qE3 {l : List (List UInt8)} {w : List UInt8} (h : l.contains w = false) : qMS l w = -1 := by rw [qMS,h];rfl
theorem qKI {l : List (List UInt8)} {w : List UInt8} {i : Nat} (h : i < l.length) (h1 : (l.take i).contains w = false) (h2 : w = l.getD i []) : qMS l w = i := by
 rw [qMS,h2,qI8 h, ← h2,if_pos rfl]
 have e := List.take_append_drop i l
 rw [← e,List.idxOf_append,if_neg (by simpa using h1),List.length_take,Nat.min_eq_left (by omega)]
 have e2 : l.drop i = w :: l.drop (i+1) := by rw [List.drop_eq_getElem_cons h,h2];simp [List.getD,List.getElem?_eq_getElem h]
 rw [e2,List.idxOf_cons_self];simp
instance f37 (l : List (List UInt8)) (w : List UInt8) : Fn BB 173 [.rd .str l,.str w] True (.int .i64 (qMS l w)) := by
 refine Fn.intro (N := 19) [0,1,4,5,7,8,9,16] [] Tryz.call173 Tryz.func173 rfl rfl (by kernel_rfl) (fun hpre => ?_)
 (conv => whnf)
 intro hlen
 (conv => whnf)
 refine LoopStop.mk (α := Nat) (fun i => [(8,.int .i64 i)]) (fun i => []) 0 (fun i => i ≤ l.length ∧ (l.take i).contains w = false) (fun i => l.length - i) 0 (by simp) ?_ (fun i hi => ?_)
 ·repeat' ((conv => whnf);first|(with_reducible first|rfl|exact qAF|exact qAG)|exact True.intro|intro _|refine WA ?_ ?_|refine WF ?_|refine W1 rfl ?_ ?_|refine W2 rfl ?_ ?_|refine W3 rfl ?_ ?_|refine W4 ?_ ?_|refine W5 rfl ?_ ?_|refine W6 ?_ ?_|refine WN ?_|refine X1 (W1 rfl ?_ ?_)|refine X1 (W2 rfl ?_ ?_)|refine X2 (W7 rfl ?_ ?_)|refine X3 (W7 rfl ?_ ?_)|refine X4 (W7 rfl ?_ ?_)|refine X5 (W7 rfl ?_ ?_))
  all_goals (try (conv => whnf))
  all_goals (try rfl)
 ·repeat' ((conv => whnf);first|(with_reducible first|rfl|exact qAF|exact qAG)|exact True.intro|intro _|refine WA ?_ ?_|refine WF ?_|refine W1 rfl ?_ ?_|refine W2 rfl ?_ ?_|refine W3 rfl ?_ ?_|refine W4 ?_ ?_|refine W5 rfl ?_ ?_|refine W6 ?_ ?_|refine WN ?_|refine X1 (W1 rfl ?_ ?_)|refine X1 (W2 rfl ?_ ?_)|refine X2 (W7 rfl ?_ ?_)|refine X3 (W7 rfl ?_ ?_)|refine X4 (W7 rfl ?_ ?_)|refine X5 (W7 rfl ?_ ?_))
  all_goals (try (conv => whnf))
  all_goals (try first|exact obA|refine Ob.mk ?_)
  all_goals (try simp only [ZA,ZB,ZC,ZD,ZE,ZF,ZG,ZH,ZI,ZJ,ZK,ZL,ZM,ZN,ZO,Int.toNat_natCast,UInt8.ofNat_toNat,cast_eq] at *)
  ·rw [qKI (by omega) hi.2 ‹_›]
  ·have h : i < l.length := by omega
   refine Rnd.mk ⟨i + 1,?_,?_,?_⟩
   ·refine ⟨by omega,?_⟩
    rw [qFY l i w h,hi.2,Bool.false_or];exact beq_eq_false_iff_ne.mpr (fun e => by simp_all)
   ·omega
   ·all_goals exact vcA
  ·have : i = l.length := by omega
   subst this
   rw [qE3 (by simpa using hi.2)]
instance f32 (l : List (List UInt8)) (w : List UInt8) : Fn BB 139 [.rd .str l,.str w] True (.bool (decide (qMS l w ≥ 0))) := by
 refine Fn.intro (N := 9) [0,1,4] [] Tryz.call139 Tryz.func139 rfl rfl (by kernel_rfl) (fun hpre => ?_)
 all_goals exact vcA
end Go.Vc.W

namespace Go.Vc.W
open Go.Proofs
set_option maxRecDepth 10000
def spR (r : Int) : Bool := decide (r < 128) && isSp (IntKind.u8.wrap r)
instance f39 (r : Int) : Fn BB 147 [.int .i32 r] (0 ≤ r) (.bool (spR r)) := by
 refine Fn.intro (N := 10) [0,2] [] Tryz.call147 Tryz.func147 rfl rfl (by kernel_rfl) (fun hpre => ?_)
 all_goals exact vcA
theorem getB (s : List UInt8) (j : Nat) : (ByteArray.get! ⟨s.toArray⟩ j) = s.getD j 0 := by
 by_cases h : j < s.length
 ·have : j < s.toArray.size := by simpa using h
  simp [ByteArray.get!,List.getD,h]
 ·simp [ByteArray.get!,List.getD,h];rfl
theorem qGR (s : List UInt8) (pos : Nat) (h : pos < s.length) : 1 ≤ (qFL s pos).2 ∧ pos + (qFL s pos).2 ≤ s.length ∧
  (if (qFL s pos).1 < 128 then (qFL s pos).2 = 1 ∧ (qFL s pos).1 = (s.getD pos 0).toNat else ∀ j,pos ≤ j → j < pos + (qFL s pos).2 → 128 ≤ (s.getD j 0).toNat) := by
 have hsz : ByteArray.size ⟨s.toArray⟩ = s.length := by simp [ByteArray.size]
 have hb : ∀ j,(s.getD j 0).toNat < 256 := fun j => UInt8.toNat_lt _
 unfold qFL Utf8.decode
 simp only [getB,hsz,Nat.add_zero]
 generalize e0 : (s.getD pos 0).toNat = b0
 generalize e1 : (s.getD (pos+1) 0).toNat = b1
 generalize e2 : (s.getD (pos+2) 0).toNat = b2
 generalize e3 : (s.getD (pos+3) 0).toNat = b3
 have k0 := hb pos
 have k1 := hb (pos+1)
 have k2 := hb (pos+2)
 have k3 := hb (pos+3)
 rw [e0] at k0;rw [e1] at k1;rw [e2] at k2;rw [e3] at k3
 have one : ∀ j,pos ≤ j → j < pos + 1 → (s.getD j 0).toNat = b0 := fun j h1 h2 => by
  have : j = pos := by omega
  subst this;exact e0
 split
 ·simp;omega
 ·rename_i hb0
  have fallb : ∀ j,pos ≤ j → j < pos + 1 → 128 ≤ (s.getD j 0).toNat := fun j h1 h2 => by rw [one j h1 h2];omega
  have err : 1 ≤ ((Utf8.runeError,1) : Nat × Nat).2 ∧ pos + ((Utf8.runeError,1) : Nat × Nat).2 ≤ s.length ∧ (if ((Utf8.runeError,1) : Nat × Nat).1 < 128 then ((Utf8.runeError,1) : Nat × Nat).2 = 1 ∧ ((Utf8.runeError,1) : Nat × Nat).1 = b0 else ∀ j,pos ≤ j → j < pos + ((Utf8.runeError,1) : Nat × Nat).2 → 128 ≤ (s.getD j 0).toNat) := by
   refine ⟨Nat.le_refl _,h,?_⟩
   rw [if_neg (by decide)];exact fallb
  split
  ·rename_i h2
   simp only [Bool.and_eq_true,decide_eq_true_eq,beq_iff_eq] at h2
   split
   ·refine ⟨by simp,by simp;omega,?_⟩
    rw [if_neg (by simp;omega)]
    intro j h3 h4
    have : j = pos ∨ j = pos + 1 := by simp at h4;omega
    rcases this with rfl | rfl
    ·rw [e0];omega
    ·rw [e1];omega
   ·exact err
  ·split
   ·rename_i h2
    simp only [Bool.and_eq_true,decide_eq_true_eq,beq_iff_eq] at h2
    split
    ·rename_i h5
     simp only [Bool.and_eq_true,decide_eq_true_eq,beq_iff_eq] at h5
     refine ⟨by simp,by simp;omega,?_⟩
     rw [if_neg (by simp;omega)]
     intro j h3 h4
     have : j = pos ∨ j = pos + 1 ∨ j = pos + 2 := by simp at h4;omega
     rcases this with rfl | rfl | rfl
     ·rw [e0];omega
     ·rw [e1];omega
     ·rw [e2];omega
    ·exact err
   ·split
    ·rename_i h2
     simp only [Bool.and_eq_true,decide_eq_true_eq,beq_iff_eq] at h2
     split
     ·rename_i h5
      simp only [Bool.and_eq_true,decide_eq_true_eq,beq_iff_eq] at h5
      refine ⟨by simp,by simp;omega,?_⟩
      rw [if_neg (by simp;omega)]
      intro j h3 h4
      have : j = pos ∨ j = pos + 1 ∨ j = pos + 2 ∨ j = pos + 3 := by simp at h4;omega
      rcases this with rfl | rfl | rfl | rfl
      ·rw [e0];omega
      ·rw [e1];omega
      ·rw [e2];omega
      ·rw [e3];omega
     ·exact err
    ·exact err
def cut (s : List UInt8) (p : Int × Int) : List UInt8 := (s.take p.2.toNat).drop p.1.toNat
theorem qY5 {c : Nat} (h : 128 ≤ c) : isSp c = false := by
 simp only [isSp,Bool.or_eq_false_iff,beq_eq_false_iff_ne];omega
theorem qJL (s : List UInt8) (i pos : Nat) (h : i ≤ pos) (h2 : pos < s.length) : cut s (i,(pos+1:Nat)) = cut s (i,pos) ++ [s.getD pos 0] := by
 unfold cut
 simp only [Int.toNat_natCast]
 rw [take_snoc s pos 0 h2,List.drop_append_of_le_length (by rw [List.length_take];omega)]
theorem qS0 (s : List UInt8) (pos k : Nat) (h : pos + k ≤ s.length) (hh : ∀ j,pos ≤ j → j < pos + k → isSp (s.getD j 0).toNat = false) :
  qEH s (pos + k) = ((qEH s pos).1,(qEH s pos).2 ++ cut s (pos,(pos + k : Nat))) := by
 induction k with
 | zero => simp [cut]
 | succ k ih =>
  rw [← Nat.add_assoc,qCE s _ (by omega),qGW (hh _ (by omega) (by omega)),ih (by omega) (fun j h1 h2 => hh j h1 (by omega)),qJL s pos (pos+k) (by omega) (by omega)]
  simp
theorem qdA (s : List UInt8) (i j k : Nat) (h : i ≤ j) (h2 : j ≤ k) (h3 : k ≤ s.length) : cut s (i,j) ++ cut s (j,k) = cut s (i,k) := by
  induction k with
  | zero => have : j = 0 := by omega
            have : i = 0 := by omega
            subst_vars;simp [cut]
  | succ k ih =>
    by_cases e : j = k + 1
    · subst e;simp [cut]
    · rw [qJL s j k (by omega) (by omega),qJL s i k (by omega) (by omega), ← List.append_assoc,ih (by omega) (by omega)]
end Go.Vc.W

namespace Go.Vc.W
open Go.Proofs
set_option maxRecDepth 10000
structure FS where
 pos : Nat
 spans : List (Int × Int)
 start : Int
structure FSok (s : List UInt8) (a : FS) : Prop where
 hp : a.pos ≤ s.length
 hs : a.spans.map (cut s) = (qEH s a.pos).1
 hr : ∀ p ∈ a.spans,0 ≤ p.1 ∧ p.1 ≤ p.2 ∧ p.2 ≤ s.length
 hb : -(s.length : Int) - 1 ≤ a.start ∧ a.start ≤ s.length
 hw : if a.start < 0 then (qEH s a.pos).2 = [] else a.start < a.pos ∧ (qEH s a.pos).2 = cut s (a.start,a.pos)
theorem FSok.len {s : List UInt8} {a : FS} (h : FSok s a) : a.spans.length ≤ a.pos := by
 have := qTM s a.pos
 rw [← h.hs,List.length_map] at this;omega
theorem qcC {s : List UInt8} {i : Int} {j : Nat} (h0 : 0 ≤ i) (h : i < j) (h2 : j ≤ s.length) : ¬ cut s (i,j) = [] := by
 intro e
 have := congrArg List.length e
 simp [cut] at this
 omega
theorem qSU {s : List UInt8} {pos : Nat} (h : pos < s.length) :
  (spR (qFL s pos).1 = true → (qFL s pos).2 = 1 ∧ isSp (s.getD pos 0).toNat = true) ∧
  (spR (qFL s pos).1 = false → pos < pos + (qFL s pos).2 ∧ pos + (qFL s pos).2 ≤ s.length ∧ ∀ j,pos ≤ j → j < pos + (qFL s pos).2 → isSp (s.getD j 0).toNat = false) := by
 have ⟨d1,d2,d3⟩ := qGR s pos h
 have hw : (qFL s pos).1 < 128 → IntKind.u8.wrap ((qFL s pos).1 : Int) = (qFL s pos).1 := fun hh => by
  simp [IntKind.wrap,IntKind.signed,IntKind.bits];omega
 by_cases hh : (qFL s pos).1 < 128
 ·rw [if_pos hh] at d3
  have e : spR (qFL s pos).1 = isSp (s.getD pos 0).toNat := by
   unfold spR;rw [hw hh,decide_eq_true (by omega),Bool.true_and,d3.2]
  rw [e]
  refine ⟨fun k => ⟨d3.1,k⟩,fun k => ⟨by omega,d2,fun j h1 h2 => ?_⟩⟩
  have : j = pos := by omega
  subst this;exact k
 ·rw [if_neg hh] at d3
  have e : spR (qFL s pos).1 = false := by unfold spR;simp;intro k;omega
  rw [e]
  refine ⟨fun k => (nomatch k),fun _ => ⟨by omega,d2,fun j h1 h2 => qY5 (d3 j h1 h2)⟩⟩
theorem qlI {s : List UInt8} {a : FS} (h : FSok s a) (h1 : a.pos < s.length) (h2 : spR (qFL s a.pos).1 = true) (h3 : 0 ≤ a.start) :
  FSok s ⟨a.pos + (qFL s a.pos).2,a.spans ++ [(a.start,(a.pos:Int))], -a.start - 1⟩ := by
 have ⟨e1,e2⟩ := (qSU h1).1 h2
 have hw := h.hw;rw [if_neg (by omega)] at hw
 have hb := h.hb
 have e := qCE s a.pos h1
 rw [qFZ e2 (by rw [hw.2];exact qcC h3 hw.1 h.hp)] at e
 constructor
 ·simp only [e1];omega
 ·simp only [e1,e,List.map_append,h.hs,hw.2];rfl
 ·intro p hp
  rcases List.mem_append.mp hp with hp | hp
  ·exact h.hr p hp
  ·simp at hp;subst hp;simp;omega
 ·simp;omega
 ·rw [if_pos (by simp;omega)];simp only [e1,e]
theorem qfD {s : List UInt8} {a : FS} (h : FSok s a) (h1 : a.pos < s.length) (h2 : spR (qFL s a.pos).1 = true) (h3 : a.start < 0) :
  FSok s ⟨a.pos + (qFL s a.pos).2,a.spans,a.start⟩ := by
 have ⟨e1,e2⟩ := (qSU h1).1 h2
 have hw := h.hw;rw [if_pos (by omega)] at hw
 have e := qCE s a.pos h1
 rw [qG6 e2 hw] at e
 constructor
 ·simp only [e1];omega
 ·simp only [e1,e,h.hs]
 ·exact h.hr
 ·exact h.hb
 ·rw [if_pos (by simpa using h3)];simp only [e1,e]
theorem qk2 {s : List UInt8} {a : FS} (h : FSok s a) (h1 : a.pos < s.length) (h2 : spR (qFL s a.pos).1 = false) (h3 : 0 ≤ a.start) :
  FSok s ⟨a.pos + (qFL s a.pos).2,a.spans,a.start⟩ := by
 have ⟨e0,e1,e2⟩ := (qSU h1).2 h2
 have hw := h.hw;rw [if_neg (by omega)] at hw
 have e := qS0 s a.pos _ e1 e2
 constructor
 ·exact e1
 ·simp only [e,h.hs]
 ·exact h.hr
 ·exact h.hb
 ·rw [if_neg (by simp;omega)];simp only [e]
  refine ⟨by omega,?_⟩
  rw [hw.2]
  obtain ⟨i,hi⟩ : ∃ i : Nat,a.start = i := ⟨a.start.toNat,by omega⟩
  rw [hi,qdA s i a.pos _ (by omega) (by omega) e1]
theorem qi1 {s : List UInt8} {a : FS} (h : FSok s a) (h1 : a.pos < s.length) (h2 : spR (qFL s a.pos).1 = false) (h3 : a.start < 0) :
  FSok s ⟨a.pos + (qFL s a.pos).2,a.spans,(a.pos : Int)⟩ := by
 have ⟨e0,e1,e2⟩ := (qSU h1).2 h2
 have hw := h.hw;rw [if_pos (by omega)] at hw
 have e := qS0 s a.pos _ e1 e2
 constructor
 ·exact e1
 ·simp only [e,h.hs]
 ·exact h.hr
 ·simp;omega
 ·rw [if_neg (by simp)];simp only [e]
  refine ⟨by omega,?_⟩
  rw [hw];rfl
theorem qd7 {s : List UInt8} {a : FS} (h : FSok s a) (h1 : ¬ a.pos < s.length) (h3 : 0 ≤ a.start) :
  (a.spans ++ [(a.start,(s.length:Int))]).map (cut s) = spl s ∧ ∀ p ∈ (a.spans ++ [(a.start,(s.length:Int))]),0 ≤ p.1 ∧ p.1 ≤ p.2 ∧ p.2 ≤ s.length := by
 have hp := h.hp
 have e : a.pos = s.length := by omega
 have hw := h.hw;rw [if_neg (by omega)] at hw
 have hb := h.hb
 refine ⟨?_,?_⟩
 ·rw [qZO (i := a.pos) (by omega) (by rw [hw.2];exact qcC h3 hw.1 h.hp),hw.2, ← h.hs,e,List.map_append];rfl
 ·intro p hp
  rcases List.mem_append.mp hp with hp | hp
  ·exact h.hr p hp
  ·simp at hp;subst hp;simp;omega
theorem qdD {s : List UInt8} {a : FS} (h : FSok s a) (h1 : ¬ a.pos < s.length) (h3 : a.start < 0) :
  a.spans.map (cut s) = spl s ∧ ∀ p ∈ a.spans,0 ≤ p.1 ∧ p.1 ≤ p.2 ∧ p.2 ≤ s.length := by
 have hp := h.hp
 have e : a.pos = s.length := by omega
 have hw := h.hw;rw [if_pos (by omega)] at hw
 exact ⟨by rw [qaF (i := a.pos) (by omega) hw,h.hs],h.hr⟩
end Go.Vc.W

namespace Go.Vc.W
open Go.Proofs
set_option maxRecDepth 10000
theorem qZZ (x : Int) (h : -100001 ≤ x ∧ x ≤ 100000) : qK3 BinOp.xor IntKind.i64 (if IntKind.i64.signed = true then -1 else IntKind.i64.max) x = -x - 1 := by
 have e : (if IntKind.i64.signed = true then (-1:Int) else IntKind.i64.max) = -1 := rfl
 rw [e]
 show IntKind.wrap .i64 ((BitVec.ofInt 64 (-1) ^^^ BitVec.ofInt 64 x).toNat : Int) = _
 have e2 : BitVec.ofInt 64 (-1) = BitVec.allOnes 64 := by decide
 rw [e2,BitVec.allOnes_xor,BitVec.toNat_not,BitVec.toNat_ofInt]
 simp [IntKind.wrap,IntKind.signed,IntKind.bits]
 omega
def fin2 (s : List UInt8) (sp : List (Int × Int)) (i : Nat) : List (List UInt8) := (sp.take i).map (cut s) ++ List.replicate (sp.length - i) []
theorem qJR (s : List UInt8) (sp : List (Int × Int)) (i : Nat) (h : i ≤ sp.length) : (fin2 s sp i).length = sp.length := by
 simp [fin2];omega
theorem qT4 (s : List UInt8) (sp : List (Int × Int)) (i : Nat) (h : i < sp.length) : (fin2 s sp i).set i (cut s (sp.getD i (0,0))) = fin2 s sp (i+1) := by
 unfold fin2
 rw [take_snoc sp i (0,0) h]
 have e : sp.length - i = (sp.length - (i+1)) + 1 := by omega
 rw [e,List.replicate_succ,List.set_append_right _ _ (by simp;omega)]
 simp
 have : i - min i sp.length = 0 := by omega
 rw [this];simp
theorem qTI (s : List UInt8) (sp : List (Int × Int)) (i : Nat) (h : sp.length ≤ i) : fin2 s sp i = sp.map (cut s) := by
 unfold fin2;rw [List.take_of_length_le h];simp;omega
theorem qN1 {α : Type} {l : List α} {i : Nat} {d : α} (h : i < l.length) : l.getD i d ∈ l := by
 simp [List.getD,List.getElem?_eq_getElem h]
instance f38 (s : List UInt8) : Fn BB 146 [.str s,.fn 147 []] (s.length ≤ 100000) (.rd .str (spl s)) := by
 refine Fn.intro (N := 65) [0,1,4,5,6,7,8,9,10,11,14,15,16,21,23,33,36,47,48,49,50] [] Tryz.call146 Tryz.func146 rfl rfl (by kernel_rfl) (fun hpre => ?_)
 repeat' ((conv => whnf);first|(with_reducible first|rfl|exact qAF|exact qAG)|exact True.intro|intro _|refine WA ?_ ?_|refine WF ?_|refine W1 rfl ?_ ?_|refine W2 rfl ?_ ?_|refine W3 rfl ?_ ?_|refine W4 ?_ ?_|refine W5 rfl ?_ ?_|refine W6 ?_ ?_|refine WN ?_|refine X1 (W1 rfl ?_ ?_)|refine X1 (W2 rfl ?_ ?_)|refine X2 (W7 rfl ?_ ?_)|refine X3 (W7 rfl ?_ ?_)|refine X4 (W7 rfl ?_ ?_)|refine X5 (W7 rfl ?_ ?_))
 all_goals (try (conv => whnf))
 all_goals (try first|exact obA|refine Ob.mk ?_)
 repeat' ((conv => whnf);first|(with_reducible first|rfl|exact qAF|exact qAG)|exact True.intro|intro _|refine WA ?_ ?_|refine WF ?_|refine W1 rfl ?_ ?_|refine W2 rfl ?_ ?_|refine W3 rfl ?_ ?_|refine W4 ?_ ?_|refine W5 rfl ?_ ?_|refine W6 ?_ ?_|refine WN ?_|refine X1 (W1 rfl ?_ ?_)|refine X1 (W2 rfl ?_ ?_)|refine X2 (W7 rfl ?_ ?_)|refine X3 (W7 rfl ?_ ?_)|refine X4 (W7 rfl ?_ ?_)|refine X5 (W7 rfl ?_ ?_))
 all_goals (try (conv => whnf))
 refine LoopStop.mk (α := FS) (fun a => [(5,.own 0),(6,.int .i64 a.start)]) (fun a => [(0,.own qe0 a.spans),(1,.iter s a.pos)]) 2 (FSok s) (fun a => s.length - a.pos) ⟨0,[], -1⟩ ⟨by simp,by simp [qEH],by simp,by simp;omega,by simp [qEH]⟩ ?_ (fun a ha => ?_)
 ·repeat' ((conv => whnf);first|(with_reducible first|rfl|exact qAF|exact qAG)|exact True.intro|intro _|refine WA ?_ ?_|refine WF ?_|refine W1 rfl ?_ ?_|refine W2 rfl ?_ ?_|refine W3 rfl ?_ ?_|refine W4 ?_ ?_|refine W5 rfl ?_ ?_|refine W6 ?_ ?_|refine WN ?_|refine X1 (W1 rfl ?_ ?_)|refine X1 (W2 rfl ?_ ?_)|refine X2 (W7 rfl ?_ ?_)|refine X3 (W7 rfl ?_ ?_)|refine X4 (W7 rfl ?_ ?_)|refine X5 (W7 rfl ?_ ?_))
  all_goals (try (conv => whnf))
  all_goals (try rfl)
  all_goals trace_state
 ·have hl := ha.len
  have h1 := ha.hp
  have h2 := ha.hb
  repeat' ((conv => whnf);first|(with_reducible first|rfl|exact qAF|exact qAG)|exact True.intro|intro _|refine WA ?_ ?_|refine WF ?_|refine W1 rfl ?_ ?_|refine W2 rfl ?_ ?_|refine W3 rfl ?_ ?_|refine W4 ?_ ?_|refine W5 rfl ?_ ?_|refine W6 ?_ ?_|refine WN ?_|refine X1 (W1 rfl ?_ ?_)|refine X1 (W2 rfl ?_ ?_)|refine X2 (W7 rfl ?_ ?_)|refine X3 (W7 rfl ?_ ?_)|refine X4 (W7 rfl ?_ ?_)|refine X5 (W7 rfl ?_ ?_))
  all_goals (try (conv => whnf))
  all_goals (try first|exact obA|refine Ob.mk ?_)
  all_goals (try simp only [ZA,ZB,ZC,ZD,ZE,ZF,ZG,ZH,ZI,ZJ,ZK,ZL,ZM,ZN,ZO,Int.toNat_natCast,UInt8.ofNat_toNat,cast_eq] at *)
  ·skip
   repeat' ((conv => whnf);first|(with_reducible first|rfl|exact qAF|exact qAG)|exact True.intro|intro _|refine WA ?_ ?_|refine WF ?_|refine W1 rfl ?_ ?_|refine W2 rfl ?_ ?_|refine W3 rfl ?_ ?_|refine W4 ?_ ?_|refine W5 rfl ?_ ?_|refine W6 ?_ ?_|refine WN ?_|refine X1 (W1 rfl ?_ ?_)|refine X1 (W2 rfl ?_ ?_)|refine X2 (W7 rfl ?_ ?_)|refine X3 (W7 rfl ?_ ?_)|refine X4 (W7 rfl ?_ ?_)|refine X5 (W7 rfl ?_ ?_))
   all_goals (try (conv => whnf))
   all_goals (try first|exact obA|refine Ob.mk ?_)
   refine Rnd.mk ⟨⟨a.pos + (qFL s a.pos).2,a.spans ++ [(a.start,(a.pos:Int))], -a.start - 1⟩,?_,?_,?_⟩
   ·exact qlI ha ‹_› ‹_› (by omega)
   ·have := (qGR s a.pos ‹_›).1;simp;omega
   ·repeat' ((conv => whnf);first|(with_reducible first|rfl|exact qAF|exact qAG)|exact True.intro|intro _|refine WA ?_ ?_|refine WF ?_|refine W1 rfl ?_ ?_|refine W2 rfl ?_ ?_|refine W3 rfl ?_ ?_|refine W4 ?_ ?_|refine W5 rfl ?_ ?_|refine W6 ?_ ?_|refine WN ?_|refine X1 (W1 rfl ?_ ?_)|refine X1 (W2 rfl ?_ ?_)|refine X2 (W7 rfl ?_ ?_)|refine X3 (W7 rfl ?_ ?_)|refine X4 (W7 rfl ?_ ?_)|refine X5 (W7 rfl ?_ ?_))
    all_goals (try (conv => whnf))
    all_goals (try first|exact obA|refine Ob.mk ?_)
    all_goals (first | (rw [qZZ _ (by omega)];done) | skip)
    all_goals trace_state
  ·have := (qGR s a.pos ‹_›).1
   refine Rnd.mk ⟨⟨a.pos + (qFL s a.pos).2,a.spans,a.start⟩,?_,?_,?_⟩
   ·exact qfD ha ‹_› ‹_› (by omega)
   ·simp;omega
   ·repeat' ((conv => whnf);first|(with_reducible first|rfl|exact qAF|exact qAG)|exact True.intro|intro _|refine WA ?_ ?_|refine WF ?_|refine W1 rfl ?_ ?_|refine W2 rfl ?_ ?_|refine W3 rfl ?_ ?_|refine W4 ?_ ?_|refine W5 rfl ?_ ?_|refine W6 ?_ ?_|refine WN ?_|refine X1 (W1 rfl ?_ ?_)|refine X1 (W2 rfl ?_ ?_)|refine X2 (W7 rfl ?_ ?_)|refine X3 (W7 rfl ?_ ?_)|refine X4 (W7 rfl ?_ ?_)|refine X5 (W7 rfl ?_ ?_))
    all_goals (try (conv => whnf))
    all_goals (try first|exact obA|refine Ob.mk ?_)
    all_goals trace_state
  ·have := (qGR s a.pos ‹_›).1
   refine Rnd.mk ⟨⟨a.pos + (qFL s a.pos).2,a.spans,a.pos⟩,?_,?_,?_⟩
   ·exact qi1 ha ‹_› ‹_› (by omega)
   ·simp;omega
   ·repeat' ((conv => whnf);first|(with_reducible first|rfl|exact qAF|exact qAG)|exact True.intro|intro _|refine WA ?_ ?_|refine WF ?_|refine W1 rfl ?_ ?_|refine W2 rfl ?_ ?_|refine W3 rfl ?_ ?_|refine W4 ?_ ?_|refine W5 rfl ?_ ?_|refine W6 ?_ ?_|refine WN ?_|refine X1 (W1 rfl ?_ ?_)|refine X1 (W2 rfl ?_ ?_)|refine X2 (W7 rfl ?_ ?_)|refine X3 (W7 rfl ?_ ?_)|refine X4 (W7 rfl ?_ ?_)|refine X5 (W7 rfl ?_ ?_))
    all_goals (try (conv => whnf))
    all_goals (try first|exact obA|refine Ob.mk ?_)
    all_goals trace_state
  ·have := (qGR s a.pos ‹_›).1
   refine Rnd.mk ⟨⟨a.pos + (qFL s a.pos).2,a.spans,a.start⟩,?_,?_,?_⟩
   ·exact qk2 ha ‹_› ‹_› (by omega)
   ·simp;omega
   ·repeat' ((conv => whnf);first|(with_reducible first|rfl|exact qAF|exact qAG)|exact True.intro|intro _|refine WA ?_ ?_|refine WF ?_|refine W1 rfl ?_ ?_|refine W2 rfl ?_ ?_|refine W3 rfl ?_ ?_|refine W4 ?_ ?_|refine W5 rfl ?_ ?_|refine W6 ?_ ?_|refine WN ?_|refine X1 (W1 rfl ?_ ?_)|refine X1 (W2 rfl ?_ ?_)|refine X2 (W7 rfl ?_ ?_)|refine X3 (W7 rfl ?_ ?_)|refine X4 (W7 rfl ?_ ?_)|refine X5 (W7 rfl ?_ ?_))
    all_goals (try (conv => whnf))
    all_goals (try first|exact obA|refine Ob.mk ?_)
    all_goals trace_state
  ·skip
   have hh := qd7 ha ‹_› (by omega)
   have hlen : (a.spans ++ [(a.start,(s.length:Int))]).length ≤ s.length + 1 := by simp;omega
   revert hh hlen
   generalize a.spans ++ [(a.start,(s.length:Int))] = sp
   intro hh hlen
   repeat' ((conv => whnf);first|(with_reducible first|rfl|exact qAF|exact qAG)|exact True.intro|intro _|refine WA ?_ ?_|refine WF ?_|refine W1 rfl ?_ ?_|refine W2 rfl ?_ ?_|refine W3 rfl ?_ ?_|refine W4 ?_ ?_|refine W5 rfl ?_ ?_|refine W6 ?_ ?_|refine WN ?_|refine X1 (W1 rfl ?_ ?_)|refine X1 (W2 rfl ?_ ?_)|refine X2 (W7 rfl ?_ ?_)|refine X3 (W7 rfl ?_ ?_)|refine X4 (W7 rfl ?_ ?_)|refine X5 (W7 rfl ?_ ?_))
   all_goals (try (conv => whnf))
   all_goals (try first|exact obA|refine Ob.mk ?_)
   repeat' ((conv => whnf);first|(with_reducible first|rfl|exact qAF|exact qAG)|exact True.intro|intro _|refine WA ?_ ?_|refine WF ?_|refine W1 rfl ?_ ?_|refine W2 rfl ?_ ?_|refine W3 rfl ?_ ?_|refine W4 ?_ ?_|refine W5 rfl ?_ ?_|refine W6 ?_ ?_|refine WN ?_|refine X1 (W1 rfl ?_ ?_)|refine X1 (W2 rfl ?_ ?_)|refine X2 (W7 rfl ?_ ?_)|refine X3 (W7 rfl ?_ ?_)|refine X4 (W7 rfl ?_ ?_)|refine X5 (W7 rfl ?_ ?_))
   all_goals (try (conv => whnf))
   refine LoopStop.mk (α := Nat) (fun i => [(49,.int .i64 i)]) (fun i => [(3,.own .str (fin2 s sp i))]) 20 (fun i => i ≤ sp.length) (fun i => sp.length - i) 0 (by simp) ?_ (fun i hi => ?_)
   ·repeat' ((conv => whnf);first|(with_reducible first|rfl|exact qAF|exact qAG)|exact True.intro|intro _|refine WA ?_ ?_|refine WF ?_|refine W1 rfl ?_ ?_|refine W2 rfl ?_ ?_|refine W3 rfl ?_ ?_|refine W4 ?_ ?_|refine W5 rfl ?_ ?_|refine W6 ?_ ?_|refine WN ?_|refine X1 (W1 rfl ?_ ?_)|refine X1 (W2 rfl ?_ ?_)|refine X2 (W7 rfl ?_ ?_)|refine X3 (W7 rfl ?_ ?_)|refine X4 (W7 rfl ?_ ?_)|refine X5 (W7 rfl ?_ ?_))
    all_goals (try (conv => whnf))
    all_goals (try rfl)
    all_goals trace_state
   ·repeat' ((conv => whnf);first|(with_reducible first|rfl|exact qAF|exact qAG)|exact True.intro|intro _|refine WA ?_ ?_|refine WF ?_|refine W1 rfl ?_ ?_|refine W2 rfl ?_ ?_|refine W3 rfl ?_ ?_|refine W4 ?_ ?_|refine W5 rfl ?_ ?_|refine W6 ?_ ?_|refine WN ?_|refine X1 (W1 rfl ?_ ?_)|refine X1 (W2 rfl ?_ ?_)|refine X2 (W7 rfl ?_ ?_)|refine X3 (W7 rfl ?_ ?_)|refine X4 (W7 rfl ?_ ?_)|refine X5 (W7 rfl ?_ ?_))
    all_goals (try (conv => whnf))
    all_goals (try first|exact obA|refine Ob.mk ?_)
    all_goals (try simp only [ZA,ZB,ZC,ZD,ZE,ZF,ZG,ZH,ZI,ZJ,ZK,ZL,ZM,ZN,ZO,Int.toNat_natCast,UInt8.ofNat_toNat,cast_eq] at *)
    ·exact hh.2 _ (qN1 (by omega))
    ·rw [qJR s sp i hi];omega
    ·rw [qJR s sp i hi];omega
    ·skip
     have e := qT4 s sp i (by omega)
     repeat' ((conv => whnf);first|(with_reducible first|rfl|exact qAF|exact qAG)|exact True.intro|intro _|refine WA ?_ ?_|refine WF ?_|refine W1 rfl ?_ ?_|refine W2 rfl ?_ ?_|refine W3 rfl ?_ ?_|refine W4 ?_ ?_|refine W5 rfl ?_ ?_|refine W6 ?_ ?_|refine WN ?_|refine X1 (W1 rfl ?_ ?_)|refine X1 (W2 rfl ?_ ?_)|refine X2 (W7 rfl ?_ ?_)|refine X3 (W7 rfl ?_ ?_)|refine X4 (W7 rfl ?_ ?_)|refine X5 (W7 rfl ?_ ?_))
     all_goals (try (conv => whnf))
     all_goals (try first|exact obA|refine Ob.mk ?_)
     refine Rnd.mk ⟨i + 1,?_,?_,?_⟩
     ·omega
     ·omega
     ·repeat' ((conv => whnf);first|(with_reducible first|rfl|exact qAF|exact qAG)|exact True.intro|intro _|refine WA ?_ ?_|refine WF ?_|refine W1 rfl ?_ ?_|refine W2 rfl ?_ ?_|refine W3 rfl ?_ ?_|refine W4 ?_ ?_|refine W5 rfl ?_ ?_|refine W6 ?_ ?_|refine WN ?_|refine X1 (W1 rfl ?_ ?_)|refine X1 (W2 rfl ?_ ?_)|refine X2 (W7 rfl ?_ ?_)|refine X3 (W7 rfl ?_ ?_)|refine X4 (W7 rfl ?_ ?_)|refine X5 (W7 rfl ?_ ?_))
      all_goals (try (conv => whnf))
      all_goals (try first|exact obA|refine Ob.mk ?_)
      all_goals (rw [← e];rfl)
    ·rw [qTI s sp i (by omega),hh.1]
  ·have hh := qdD ha ‹_› (by omega)
   have hlen : a.spans.length ≤ s.length + 1 := by omega
   revert hh hlen
   generalize a.spans = sp
   intro hh hlen
   repeat' ((conv => whnf);first|(with_reducible first|rfl|exact qAF|exact qAG)|exact True.intro|intro _|refine WA ?_ ?_|refine WF ?_|refine W1 rfl ?_ ?_|refine W2 rfl ?_ ?_|refine W3 rfl ?_ ?_|refine W4 ?_ ?_|refine W5 rfl ?_ ?_|refine W6 ?_ ?_|refine WN ?_|refine X1 (W1 rfl ?_ ?_)|refine X1 (W2 rfl ?_ ?_)|refine X2 (W7 rfl ?_ ?_)|refine X3 (W7 rfl ?_ ?_)|refine X4 (W7 rfl ?_ ?_)|refine X5 (W7 rfl ?_ ?_))
   all_goals (try (conv => whnf))
   refine LoopStop.mk (α := Nat) (fun i => [(49,.int .i64 i)]) (fun i => [(2,.own .str (fin2 s sp i))]) 3 (fun i => i ≤ sp.length) (fun i => sp.length - i) 0 (by simp) ?_ (fun i hi => ?_)
   ·repeat' ((conv => whnf);first|(with_reducible first|rfl|exact qAF|exact qAG)|exact True.intro|intro _|refine WA ?_ ?_|refine WF ?_|refine W1 rfl ?_ ?_|refine W2 rfl ?_ ?_|refine W3 rfl ?_ ?_|refine W4 ?_ ?_|refine W5 rfl ?_ ?_|refine W6 ?_ ?_|refine WN ?_|refine X1 (W1 rfl ?_ ?_)|refine X1 (W2 rfl ?_ ?_)|refine X2 (W7 rfl ?_ ?_)|refine X3 (W7 rfl ?_ ?_)|refine X4 (W7 rfl ?_ ?_)|refine X5 (W7 rfl ?_ ?_))
    all_goals (try (conv => whnf))
    all_goals (try rfl)
    all_goals trace_state
   ·repeat' ((conv => whnf);first|(with_reducible first|rfl|exact qAF|exact qAG)|exact True.intro|intro _|refine WA ?_ ?_|refine WF ?_|refine W1 rfl ?_ ?_|refine W2 rfl ?_ ?_|refine W3 rfl ?_ ?_|refine W4 ?_ ?_|refine W5 rfl ?_ ?_|refine W6 ?_ ?_|refine WN ?_|refine X1 (W1 rfl ?_ ?_)|refine X1 (W2 rfl ?_ ?_)|refine X2 (W7 rfl ?_ ?_)|refine X3 (W7 rfl ?_ ?_)|refine X4 (W7 rfl ?_ ?_)|refine X5 (W7 rfl ?_ ?_))
    all_goals (try (conv => whnf))
    all_goals (try first|exact obA|refine Ob.mk ?_)
    all_goals (try simp only [ZA,ZB,ZC,ZD,ZE,ZF,ZG,ZH,ZI,ZJ,ZK,ZL,ZM,ZN,ZO,Int.toNat_natCast,UInt8.ofNat_toNat,cast_eq] at *)
    ·exact hh.2 _ (qN1 (by omega))
    ·rw [qJR s sp i hi];omega
    ·rw [qJR s sp i hi];omega
    ·skip
     have e := qT4 s sp i (by omega)
     repeat' ((conv => whnf);first|(with_reducible first|rfl|exact qAF|exact qAG)|exact True.intro|intro _|refine WA ?_ ?_|refine WF ?_|refine W1 rfl ?_ ?_|refine W2 rfl ?_ ?_|refine W3 rfl ?_ ?_|refine W4 ?_ ?_|refine W5 rfl ?_ ?_|refine W6 ?_ ?_|refine WN ?_|refine X1 (W1 rfl ?_ ?_)|refine X1 (W2 rfl ?_ ?_)|refine X2 (W7 rfl ?_ ?_)|refine X3 (W7 rfl ?_ ?_)|refine X4 (W7 rfl ?_ ?_)|refine X5 (W7 rfl ?_ ?_))
     all_goals (try (conv => whnf))
     all_goals (try first|exact obA|refine Ob.mk ?_)
     refine Rnd.mk ⟨i + 1,?_,?_,?_⟩
     ·omega
     ·omega
     ·repeat' ((conv => whnf);first|(with_reducible first|rfl|exact qAF|exact qAG)|exact True.intro|intro _|refine WA ?_ ?_|refine WF ?_|refine W1 rfl ?_ ?_|refine W2 rfl ?_ ?_|refine W3 rfl ?_ ?_|refine W4 ?_ ?_|refine W5 rfl ?_ ?_|refine W6 ?_ ?_|refine WN ?_|refine X1 (W1 rfl ?_ ?_)|refine X1 (W2 rfl ?_ ?_)|refine X2 (W7 rfl ?_ ?_)|refine X3 (W7 rfl ?_ ?_)|refine X4 (W7 rfl ?_ ?_)|refine X5 (W7 rfl ?_ ?_))
      all_goals (try (conv => whnf))
      all_goals (try first|exact obA|refine Ob.mk ?_)
      all_goals (rw [← e];rfl)
    ·rw [qTI s sp i (by omega),hh.1]
end Go.Vc.W

/-
 DERIVED: THE SHELF's CONTRACTS AT THIS DUMP,IN PLAIN WORDS (tools/lay-plain.mjs out of 'TryzShelf.lean',which tools/lay-shelf.mjs wrote): THE SAME DECLARATIONS UNDER THE SAME NAMES: 'import', 'namespace', 'open', 'def', 'theorem' AND NOTHING ELSE: no command of the shelf's: FOR A HAND-IN. Each laying: the table of numbers ('.._ren') and one theorem,a field a fact of the dump's own or the kernel's comparison;each contract: ONE APPLICATION.
-/
namespace Go.Proofs
open Go.Shelf
def Tryz.lays219_ren : Go.Shelf.Ren := ⟨fun | 219 => 172 | 217 => 203 | 225 => 204 | 224 => 205 | 267 => 206 | 266 => 253 | 314 => 254 | n => n,fun | 9 => 9 | 3 => 3 | 4 => 4 | 5 => 5 | 46 => 214 | 146 => 232 | 51 => 231 | n => n,fun | 1 => 0 | n => n⟩
def Tryz.lays143_ren : Go.Shelf.Ren := ⟨fun | 143 => 137 | 219 => 172 | 217 => 203 | 225 => 204 | 224 => 205 | 267 => 206 | 266 => 253 | 314 => 254 | n => n,fun | 9 => 9 | 3 => 3 | 4 => 4 | 5 => 5 | 46 => 214 | 146 => 232 | 51 => 231 | n => n,fun | 1 => 0 | n => n⟩
theorem Tryz.lays143 : Go.Proofs.Lays.n143 Tryz.prog Tryz.lays143_ren := {
  mixed := by kernel_rfl
  f143 := Tryz.func137.trans (congrArg some (by kernel_rfl))
  f217 := Tryz.func203.trans (congrArg some (by kernel_rfl))
  f219 := Tryz.func172.trans (congrArg some (by kernel_rfl))
  f224 := Tryz.func205.trans (congrArg some (by kernel_rfl))
  f225 := Tryz.func204.trans (congrArg some (by kernel_rfl))
  f266 := Tryz.func253.trans (congrArg some (by kernel_rfl))
  f267 := Tryz.func206.trans (congrArg some (by kernel_rfl))
  f314 := Tryz.func254.trans (congrArg some (by kernel_rfl))
  t3 := Tryz.underlying3
  a3 := Tryz.isAgg3
  z3 := Tryz.sizeOf3
  v3 := Tryz.zeroValue3
  t4 := Tryz.underlying4
  a4 := Tryz.isAgg4
  z4 := Tryz.sizeOf4
  v4 := Tryz.zeroValue4
  t5 := Tryz.underlying5
  a5 := Tryz.isAgg5
  z5 := Tryz.sizeOf5
  v5 := Tryz.zeroValue5
  t9 := Tryz.underlying9
  a9 := Tryz.isAgg9
  z9 := Tryz.sizeOf9
  v9 := Tryz.zeroValue9
  t46 := Tryz.underlying214
  a46 := Tryz.isAgg214
  z46 := Tryz.sizeOf214
  v46 := Tryz.zeroValue214
  t51 := Tryz.underlying231
  a51 := Tryz.isAgg231
  z51 := Tryz.sizeOf231
  v51 := Tryz.zeroValue231
  t146 := Tryz.underlying232
  a146 := Tryz.isAgg232
  z146 := Tryz.sizeOf232
  v146 := Tryz.zeroValue232
  g1 := by kernel_rfl }
open Go.RowKit Go.Lib in
theorem Tryz.strings_Index (s sub : ByteArray) (m : Int) (w : World) (hs : s.size < 4294967281) (hm : w.cell? ⟨0,0,none⟩ = some (.int .i64 m)) :
  Calls Tryz.prog 137 #[.string s,.string sub] w fun e w' => e = .returned (.int .i64 (Lib.index s.data.toList sub.data.toList)) ∧ w' = w := Any.strings_Index Tryz.lays143 s sub m w hs hm
end Go.Proofs

namespace Go.Vc.W
open Go.Proofs
set_option maxRecDepth 10000
instance f33 (s : List UInt8) : Fn BB 102 [.str s] (s.length ≤ 100000) (.rd .str (spl s)) := by
 refine Fn.intro (N := 5) [0,2] [] Tryz.call102 Tryz.func102 rfl rfl (by kernel_rfl) (fun hpre => ?_)
 all_goals exact vcA
instance f30 (s t : List UInt8) : Fn BB 137 [.str s,.str t] (s.length ≤ 4294967280) (.int .i64 (Lib.index s t)) := by
 refine Fn.lift Tryz.call137 fun hp r β w vs hG m hl => ?_
 obtain ⟨rfl,h1,h2⟩ := hl.str2
 obtain ⟨c,T,fr,mm,e1,e2⟩ := hG
 have e3 := m.vis 0 _ e1
 exact ⟨_,Tryz.strings_Index ⟨s.toArray⟩ ⟨t.toArray⟩ mm w (by show s.toArray.size < _;simp;omega) (by simp [World.cell?,e3,e2]),.int⟩
end Go.Vc.W

namespace Go.Vc.W
open Go.Proofs
set_option maxRecDepth 10000
def qj6 (s w : List UInt8) (j : Nat) : Prop := Lib.occAt s w j = true ∧ (j = 0 ∨ isSp (s.getD (j-1) 0).toNat = true) ∧ (j + w.length = s.length ∨ isSp (s.getD (j + w.length) 0).toNat = true)
def NoB (s w : List UInt8) (a : Nat) : Prop := ∀ j,j < a → ¬ qj6 s w j
theorem qXC (s : List UInt8) (j i : Nat) (h : j ≤ i) (h2 : i ≤ s.length) : Lib.occAt s (cut s (j,i)) j = true := by
 unfold Lib.occAt cut
 rw [List.isPrefixOf_iff_prefix]
 simp only [Int.toNat_natCast]
 rw [List.drop_take]
 exact List.take_prefix _ _
theorem qYG (s : List UInt8) (j i : Nat) (h : j ≤ i) (h2 : i ≤ s.length) : (cut s (j,i)).length = i - j := by
 simp [cut];omega
theorem qU5 (s : List UInt8) (i : Nat) (h : i ≤ s.length) :
  (∀ x ∈ (qEH s i).1,¬ x = [] ∧ ∃ j,qj6 s x j) ∧ ∃ j,j ≤ i ∧ (qEH s i).2 = cut s ((j:Nat),(i:Nat)) ∧ (j = 0 ∨ isSp (s.getD (j-1) 0).toNat = true) := by
 induction i with
 | zero => exact ⟨by simp [qEH],0,by simp,by simp [qEH,cut],Or.inl rfl⟩
 | succ i ih =>
  obtain ⟨ih1,j,hj,e,hb⟩ := ih (by omega)
  have es := qCE s i (by omega)
  cases hc : isSp (s.getD i 0).toNat with
  | false =>
   rw [qGW hc] at es
   rw [es]
   exact ⟨ih1,j,by omega,by rw [qJL s j i hj (by omega), ← e],hb⟩
  | true =>
   by_cases h2 : (qEH s i).2 = []
   ·rw [qG6 hc h2] at es
    rw [es]
    exact ⟨ih1,i + 1,by omega,by simp [cut],Or.inr (by simpa using hc)⟩
   ·rw [qFZ hc h2] at es
    rw [es]
    refine ⟨fun x hx => ?_,i + 1,by omega,by simp [cut],Or.inr (by simpa using hc)⟩
    rcases List.mem_append.mp hx with hx | hx
    ·exact ih1 x hx
    ·simp only [List.mem_singleton] at hx
     subst hx
     refine ⟨h2,j,?_⟩
     rw [e]
     refine ⟨qXC s j i hj (by omega),hb,Or.inr ?_⟩
     rw [qYG s j i hj (by omega)]
     have : j + (i - j) = i := by omega
     rw [this];exact hc
theorem qQI (s x : List UInt8) (h : (spl s).contains x = true) : ¬ x = [] ∧ ∃ j,qj6 s x j := by
 have hx : x ∈ spl s := by simpa using h
 obtain ⟨h1,j,hj,e,hb⟩ := qU5 s s.length (Nat.le_refl _)
 by_cases h2 : (qEH s s.length).2 = []
 ·rw [qaF (Nat.le_refl _) h2] at hx;exact h1 x hx
 ·rw [qZO (Nat.le_refl _) h2] at hx
  rcases List.mem_append.mp hx with hx | hx
  ·exact h1 x hx
  ·simp only [List.mem_singleton] at hx
   subst hx
   refine ⟨h2,j,?_⟩
   rw [e]
   refine ⟨qXC s j _ hj (Nat.le_refl _),hb,Or.inl ?_⟩
   rw [qYG s j _ hj (Nat.le_refl _)];omega
theorem qX2 (s x : List UInt8) (h : x = []) : (spl s).contains x = false := by
 cases e : (spl s).contains x with
 | false => rfl
 | true => exact absurd h (qQI s x e).1
theorem qcR (s x : List UInt8) (n : Nat) (hn : s.length ≤ n) (h0 : ¬ x = []) (h : NoB s x n) : (spl s).contains x = false := by
 cases e : (spl s).contains x with
 | false => rfl
 | true =>
  obtain ⟨j,hj⟩ := (qQI s x e).2
  rcases Lib.occAt_room hj.1 with k | k
  ·have : 0 < x.length := List.length_pos_iff.mpr h0
   exact absurd hj (h j (by omega))
  ·exact absurd k h0
theorem least (f : Nat → Bool) (n : Nat) (h : f n = true) : ∃ m,f m = true ∧ ∀ j,j < m → f j = false := by
 induction n using Nat.strongRecOn with
 | _ n ih =>
  by_cases hh : ∃ j,j < n ∧ f j = true
  ·obtain ⟨j,h1,h2⟩ := hh
   exact ih j h1 h2
  ·refine ⟨n,h,fun j hj => ?_⟩
   cases e : f j with
   | false => rfl
   | true => exact absurd ⟨j,hj,e⟩ hh
theorem ixs (s w : List UInt8) (i : Nat) (hi : i ≤ s.length) (h0 : ¬ w = []) :
  (Lib.index (s.drop i) w = -1 ∧ ∀ j,i ≤ j → Lib.occAt s w j = false) ∨
  ∃ p : Nat,Lib.index (s.drop i) w = p ∧ i + p + w.length ≤ s.length ∧ Lib.occAt s w (i + p) = true ∧ ∀ j,i ≤ j → j < i + p → Lib.occAt s w j = false := by
 have sh : ∀ q,Lib.occAt (s.drop i) w q = Lib.occAt s w (i + q) := fun q => by simp [Lib.occAt,List.drop_drop]
 by_cases hh : ∃ q,Lib.occAt (s.drop i) w q = true
 ·right
  obtain ⟨q,hq⟩ := hh
  obtain ⟨p,hd,hm⟩ := least _ q hq
  refine ⟨p,?_⟩
  have hr : i + p + w.length ≤ s.length := by
   rcases Lib.occAt_room hd with k | k
   ·have : 0 < w.length := List.length_pos_iff.mpr h0
    simp at k;omega
   ·exact absurd k h0
  refine ⟨Lib.index_first (by simp;omega) hd hm,hr,by rw [← sh];exact hd,fun j h1 h2 => ?_⟩
  have := hm (j - i) (by omega)
  rw [sh] at this
  have e : i + (j - i) = j := by omega
  rwa [e] at this
 ·left
  have hm : ∀ q,Lib.occAt (s.drop i) w q = false := fun q => by
   cases e : Lib.occAt (s.drop i) w q with
   | false => rfl
   | true => exact absurd ⟨q,e⟩ hh
  refine ⟨Lib.index_none fun j _ => hm j,fun j h1 => ?_⟩
  have := hm (j - i)
  rw [sh] at this
  have e : i + (j - i) = j := by omega
  rwa [e] at this
end Go.Vc.W

namespace Go.Vc.W
open Go.Proofs
set_option maxRecDepth 10000
theorem qaQ (l : List (List UInt8)) (w : List UInt8) : decide (qMS l w ≥ 0) = l.contains w := by
 unfold qMS
 cases h : l.contains w <;> simp
theorem qaV {s w : List UInt8} {i p : Nat} (h : NoB s w i) (hp : ∀ j,i ≤ j → j < i + p → Lib.occAt s w j = false) (hb : ¬ qj6 s w (i + p)) : NoB s w (i + p + 1) := by
 intro j hj
 by_cases h1 : j < i
 ·exact h j h1
 ·by_cases h2 : j < i + p
  ·intro e;have := hp j (by omega) h2;rw [e.1] at this;cases this
  ·have : j = i + p := by omega
   subst this;exact hb
theorem qeH {s w : List UInt8} {i : Nat} (h : NoB s w i) (hp : ∀ j,i ≤ j → Lib.occAt s w j = false) (n : Nat) : NoB s w n := by
 intro j hj
 by_cases h1 : j < i
 ·exact h j h1
 ·intro e;have := hp j (by omega);rw [e.1] at this;cases this
instance f26 (s w : List UInt8) : Fn BB 84 [.str s,.str w] (s.length ≤ 100000 ∧ w.length ≤ 100000) (.bool ((spl s).contains w)) := by
  refine Fn.intro (N := 52) [0,1,4,5,6,7,8,10,17,45] [] Tryz.call84 Tryz.func84 rfl rfl (by kernel_rfl) (fun hpre => ?_)
  repeat' ((conv => whnf);first|(with_reducible first|rfl|exact qAF|exact qAG)|exact True.intro|intro _|refine WA ?_ ?_|refine WF ?_|refine W1 rfl ?_ ?_|refine W2 rfl ?_ ?_|refine W3 rfl ?_ ?_|refine W4 ?_ ?_|refine W5 rfl ?_ ?_|refine W6 ?_ ?_|refine WN ?_|refine X1 (W1 rfl ?_ ?_)|refine X1 (W2 rfl ?_ ?_)|refine X2 (W7 rfl ?_ ?_)|refine X3 (W7 rfl ?_ ?_)|refine X4 (W7 rfl ?_ ?_)|refine X5 (W7 rfl ?_ ?_))
  all_goals (try (conv => whnf))
  all_goals (try first|exact obA|refine Ob.mk ?_)
  · rw [qX2 s w (by simpa using ‹(w == []) = true›)]
  · have h0 : ¬ w = [] := by simpa using ‹(w == []) = false›
    refine LoopStop.mk (α := Nat) (fun i => [(5,.int .i64 i)]) (fun i => []) 0 (fun i => i ≤ s.length ∧ NoB s w i) (fun i => s.length + 1 - i) 0 ⟨by omega,fun j hj => absurd hj (by omega)⟩ ?_ (fun i hi => ?_)
    · repeat' ((conv => whnf);first|(with_reducible first|rfl|exact qAF|exact qAG)|exact True.intro|intro _|refine WA ?_ ?_|refine WF ?_|refine W1 rfl ?_ ?_|refine W2 rfl ?_ ?_|refine W3 rfl ?_ ?_|refine W4 ?_ ?_|refine W5 rfl ?_ ?_|refine W6 ?_ ?_|refine WN ?_|refine X1 (W1 rfl ?_ ?_)|refine X1 (W2 rfl ?_ ?_)|refine X2 (W7 rfl ?_ ?_)|refine X3 (W7 rfl ?_ ?_)|refine X4 (W7 rfl ?_ ?_)|refine X5 (W7 rfl ?_ ?_))
      all_goals (try (conv => whnf))
      all_goals (try rfl)
    · have hx := ixs s w i hi.1 h0
      have hl0 : 0 < w.length := List.length_pos_iff.mpr h0
      repeat' ((conv => whnf);first|(with_reducible first|rfl|exact qAF|exact qAG)|exact True.intro|intro _|refine WA ?_ ?_|refine WF ?_|refine W1 rfl ?_ ?_|refine W2 rfl ?_ ?_|refine W3 rfl ?_ ?_|refine W4 ?_ ?_|refine W5 rfl ?_ ?_|refine W6 ?_ ?_|refine WN ?_|refine X1 (W1 rfl ?_ ?_)|refine X1 (W2 rfl ?_ ?_)|refine X2 (W7 rfl ?_ ?_)|refine X3 (W7 rfl ?_ ?_)|refine X4 (W7 rfl ?_ ?_)|refine X5 (W7 rfl ?_ ?_))
      all_goals (try (conv => whnf))
      all_goals (try simp only [ZA,ZB,ZC,ZD,ZE,ZF,ZG,ZH,ZI,ZJ,ZK,ZL,ZM,ZN,ZO,Int.toNat_natCast,UInt8.ofNat_toNat,cast_eq] at *)
      all_goals (rcases hx with ⟨hx,hx2⟩ | ⟨p,hx,hx1,hx2,hx3⟩)
      all_goals (try (exfalso;omega))
      all_goals (try first|exact obA|refine Ob.mk ?_)
      · rw [qcR s w s.length (Nat.le_refl _) h0 (qeH hi.2 hx2 _)]
      · rw [qaQ]
      · have hb : ¬ qj6 s w (i + p) := by
          rintro ⟨b1,b2,b3⟩
          have e1 : ((i:Int) + (p:Int) - 1).toNat = i + p - 1 := by omega
          have e2 : ((i:Int) + (p:Int) + (w.length:Int)).toNat = i + p + w.length := by omega
          rename_i hc _ _
          rw [hx,e1,e2] at hc
          simp only [Bool.and_eq_false_iff,Bool.or_eq_false_iff,beq_eq_false_iff_ne] at hc
          rcases hc with ⟨c1,c2⟩ | ⟨c1,c2⟩
          · rcases b2 with b2 | b2
            · omega
            · rw [b2] at c2;cases c2
          · rcases b3 with b3 | b3
            · omega
            · rw [b3] at c2;cases c2
        refine Rnd.mk ⟨i + p + 1,?_,?_,?_⟩
        · exact ⟨by omega,qaV hi.2 hx3 hb⟩
        · omega
        · all_goals exact vcA
end Go.Vc.W

namespace Go.Vc
open Go.Proofs
open Go.Vc.W
set_option maxRecDepth 10000
set_option maxHeartbeats 4000000
theorem qZH {α : Type} {κ : KTy} {k : κ.T} {v : α} : ∀ {l : List (κ.T × α)},qGO κ l k = some v → (k,v) ∈ l := by
 intro l
 induction l with
 | nil => intro h;cases h
 | cons x r ih =>
  intro h
  obtain ⟨k',v'⟩ := x
  unfold qGO at h
  cases hb : κ.beq k k' with
  | true =>
   rw [hb] at h
   cases h
   rw [(qME k k').1 hb]
   exact List.mem_cons_self
  | false =>
   rw [hb] at h
   exact List.mem_cons_of_mem _ (ih h)
theorem qdF {nm o : List UInt8} (h : qGO .w qeF nm = some o) : o.length ≤ 1000 := by
 have key : ∀ p ∈ qeF,p.2.length ≤ 1000 := by decide
 exact key _ (qZH h)
instance kOwn : FnM BB 145 [] [] True (.mref 0) [(0,.mp .w .str qeF)] := by
 refine FnM.intro (N := 12) [0] [] 0 Tryz.call145 Tryz.func145 rfl rfl (by kernel_rfl) (fun hpre => ?_)
 repeat' ((conv => whnf);first|(with_reducible first|rfl|exact qAF|exact qAG)|exact True.intro|intro _|refine WA ?_ ?_|refine WF ?_|refine W1 rfl ?_ ?_|refine W2 rfl ?_ ?_|refine W3 rfl ?_ ?_|refine W4 ?_ ?_|refine W5 rfl ?_ ?_|refine W6 ?_ ?_|refine WN ?_|refine X1 (W1 rfl ?_ ?_)|refine X1 (W2 rfl ?_ ?_)|refine X2 (W7 rfl ?_ ?_)|refine X3 (W7 rfl ?_ ?_)|refine X4 (W7 rfl ?_ ?_)|refine X5 (W7 rfl ?_ ?_))
 all_goals (try (conv => whnf))
 all_goals (try first|exact obA|refine Ob.mk ?_)
 exact congrArg (Chunk.mp KTy.w Ty.str) (by kernel_rfl)
def qPF (s : Int) (nn nm : List UInt8) : Bool := if nm = vbT ∨ nm = qnV then s == 1 else if nm = qwA then s == 2 && nn == axT else true
def qJF (k s : Int) (nn nm : List UInt8) : Bool :=
 k == 1 && match qGO (α := List UInt8) .w qeF nm with
 | some o => s == 0 && (spl o).contains nn
 | none => qPF s nn nm
theorem qb9 {k s : Int} {nn nm : List UInt8} (h : ¬ k = 1) : qJF k s nn nm = false := by rw [qJF,beq_eq_false_iff_ne.mpr h];rfl
theorem qhG {s : Int} {nn nm o : List UInt8} (h : qGO .w qeF nm = some o) : qJF 1 s nn nm = (s == 0 && (spl o).contains nn) := by
 rw [qJF,h];rfl
theorem qe9 {s : Int} {nn nm : List UInt8} (h : qGO (α := List UInt8) .w qeF nm = none) : qJF 1 s nn nm = qPF s nn nm := by
 rw [qJF,h];rfl
theorem qbU {s : Int} {nn nm : List UInt8} (h : nm = vbT ∨ nm = qnV) : qPF s nn nm = (s == 1) := by rw [qPF,if_pos h]
theorem qhH {s : Int} {nn : List UInt8} : qPF s nn qwA = (s == 2 && nn == axT) := by
 rw [qPF,if_neg (by decide),if_pos rfl]
theorem qhY {s : Int} {nn nm : List UInt8} (h1 : ¬ nm = vbT) (h2 : ¬ nm = qnV) (h3 : ¬ nm = qwA) : qPF s nn nm = true := by
 rw [qPF,if_neg (by rintro (h | h) <;> contradiction),if_neg h3]
instance kFits (k s : Int) (nn : List UInt8) (at_ : List qAP.T) (dt : List UInt8) (up : Int) (kids : List Int) (nm : List UInt8) :
  Fn BB 99 [.agg [.int .i64 k,.int .i64 s,.str nn,.rd qAP at_,.str dt,.int .i64 up,.rd qAH kids],.str nm] (nn.length ≤ 1000) (.bool (qJF k s nn nm)) := by
 refine Fn.intro (N := 44) [0,1,2,4,5,6,9,16,27,28,34] [] Tryz.call99 Tryz.func99 rfl rfl (by kernel_rfl) (fun hpre => ?_)
 repeat' ((conv => whnf);first|(with_reducible first|rfl|exact qAF|exact qAG)|exact True.intro|intro _|refine WA ?_ ?_|refine WF ?_|refine W1 rfl ?_ ?_|refine W2 rfl ?_ ?_|refine W3 rfl ?_ ?_|refine W4 ?_ ?_|refine W5 rfl ?_ ?_|refine W6 ?_ ?_|refine WN ?_|refine X1 (W1 rfl ?_ ?_)|refine X1 (W2 rfl ?_ ?_)|refine X2 (W7 rfl ?_ ?_)|refine X3 (W7 rfl ?_ ?_)|refine X4 (W7 rfl ?_ ?_)|refine X5 (W7 rfl ?_ ?_))
 all_goals (try (conv => whnf))
 all_goals (try first|exact obA|refine Ob.mk ?_)
 all_goals (try simp only [ZA,ZB,ZC,ZD,ZE,ZF,ZG,ZH,ZI,ZJ,ZK,ZL,ZM,ZN,ZO,Bool.and_eq_false_iff,Bool.or_eq_false_iff,ge_iff_le,gt_iff_lt,Int.toNat_natCast,UInt8.ofNat_toNat,cast_eq] at *)
 all_goals (try contradiction)
 all_goals (try (rw [qb9 ‹_›];done))
 all_goals (have hk : k = 1 := ‹_›;subst hk)
 ·obtain ⟨o,ho⟩ := Option.isSome_iff_exists.1 ‹_›
  rw [ho]
  have := qdF ho
  exact ⟨by show o.length ≤ _;omega,by omega⟩
 ·obtain ⟨o,ho⟩ := Option.isSome_iff_exists.1 ‹_›
  rw [qhG ho,ho];rfl
 all_goals (have hn : qGO (α := List UInt8) .w qeF nm = none := Option.isSome_eq_false_iff.1 ‹_› |> Option.isNone_iff_eq_none.1)
 all_goals rw [qe9 hn]
 ·subst ‹nm = _›;exact (qbU (nm := vbT) (.inl rfl)).symm
 ·subst ‹nm = _›;exact (qbU (nm := qnV) (.inr rfl)).symm
 ·subst ‹nm = _›;exact qhH.symm
 ·exact (qhY ‹_› ‹_› ‹_›).symm
end Go.Vc

namespace Go.Vc
open Go.Proofs
set_option maxRecDepth 10000
abbrev qAE := qAC.T
abbrev qAE.up (n : qAE) : Int := n.2.2.2.2.2.1
abbrev qAE.kids (n : qAE) : List Int := n.2.2.2.2.2.2
def isT (l : List qAE) (i : Int) : Bool := decide (0 ≤ i) && decide (i < l.length)
end Go.Vc

namespace Go.Vc
open Go.Proofs
set_option maxRecDepth 10000
theorem take_snoc {α : Type} (l : List α) (i : Nat) (d : α) (h : i < l.length) : l.take (i + 1) = l.take i ++ [l.getD i d] := by
 rw [List.take_succ_eq_append_getElem h];simp [List.getD,List.getElem?_eq_getElem h]
theorem qNH {α : Type} (p : α → Bool) (l : List α) (i : Nat) (d : α) (h : i < l.length) : (l.take (i + 1)).all p = ((l.take i).all p && p (l.getD i d)) := by
 rw [take_snoc l i d h];simp
theorem qIN {α : Type} {p : α → Bool} {l : List α} {i : Nat} {d : α} (h : i < l.length) (hp : p (l.getD i d) = false) : l.all p = false := by
 rw [List.all_eq_false]
 refine ⟨l.getD i d,?_,by rw [hp];simp⟩
 simp [List.getD,List.getElem?_eq_getElem h]
abbrev qAJ := qAP.T
def qGF (l : List qAJ) : Bool := decide (l.length ≤ 14) && l.all fun a => decide (a.1.length ≤ 40) && decide (a.2.length ≤ 150)
instance f33 (l : List qAJ) : Fn BB 37 [.rd qAP l] True (.bool (qGF l)) := by
 refine Fn.intro (N := 25) [0,2,4,7,8,9,10,11,23] [] Tryz.call37 Tryz.func37 rfl rfl (by kernel_rfl) (fun hpre => ?_)
 repeat' ((conv => whnf);first|(with_reducible first|rfl|exact qAF|exact qAG)|exact True.intro|intro _|refine WA ?_ ?_|refine WF ?_|refine W1 rfl ?_ ?_|refine W2 rfl ?_ ?_|refine W3 rfl ?_ ?_|refine W4 ?_ ?_|refine W5 rfl ?_ ?_|refine W6 ?_ ?_|refine WN ?_|refine X1 (W1 rfl ?_ ?_)|refine X1 (W2 rfl ?_ ?_)|refine X2 (W7 rfl ?_ ?_)|refine X3 (W7 rfl ?_ ?_)|refine X4 (W7 rfl ?_ ?_)|refine X5 (W7 rfl ?_ ?_))
 all_goals (try (conv => whnf))
 ·simp only [qGF,decide_eq_true_eq] at *
  rw [decide_eq_false (by omega)];rfl
 ·refine LoopStop.mk (α := Nat) (fun i => [(10,.int .i64 i)]) (fun _ => []) 0 (fun i => i ≤ l.length ∧ (l.take i).all (fun a => decide (a.1.length ≤ 40) && decide (a.2.length ≤ 150)) = true) (fun i => l.length - i) 0 (by simp) ?_ (fun i hi => ?_)
  ·repeat' ((conv => whnf);first|(with_reducible first|rfl|exact qAF|exact qAG)|exact True.intro|intro _|refine WA ?_ ?_|refine WF ?_|refine W1 rfl ?_ ?_|refine W2 rfl ?_ ?_|refine W3 rfl ?_ ?_|refine W4 ?_ ?_|refine W5 rfl ?_ ?_|refine W6 ?_ ?_|refine WN ?_|refine X1 (W1 rfl ?_ ?_)|refine X1 (W2 rfl ?_ ?_)|refine X2 (W7 rfl ?_ ?_)|refine X3 (W7 rfl ?_ ?_)|refine X4 (W7 rfl ?_ ?_)|refine X5 (W7 rfl ?_ ?_))
   all_goals (try (conv => whnf))
   all_goals (try rfl)
  ·obtain ⟨hi,ha⟩ := hi
   repeat' ((conv => whnf);first|(with_reducible first|rfl|exact qAF|exact qAG)|exact True.intro|intro _|refine WA ?_ ?_|refine WF ?_|refine W1 rfl ?_ ?_|refine W2 rfl ?_ ?_|refine W3 rfl ?_ ?_|refine W4 ?_ ?_|refine W5 rfl ?_ ?_|refine W6 ?_ ?_|refine WN ?_|refine X1 (W1 rfl ?_ ?_)|refine X1 (W2 rfl ?_ ?_)|refine X2 (W7 rfl ?_ ?_)|refine X3 (W7 rfl ?_ ?_)|refine X4 (W7 rfl ?_ ?_)|refine X5 (W7 rfl ?_ ?_))
   all_goals (try (conv => whnf))
   all_goals (try first|exact obA|refine Ob.mk ?_)
   all_goals (try simp only [ZA,ZB,ZC,ZD,ZE,ZF,ZG,ZH,ZI,ZJ,ZK,ZL,ZM,ZN,ZO,Int.toNat_natCast,UInt8.ofNat_toNat,cast_eq] at *)
   ·have h : i < l.length := by omega
    rw [qGF,qIN h (d := qAP.dflt)]
    ·simp
    ·simp_all;omega
   ·have h : i < l.length := by omega
    refine Rnd.mk ⟨i + 1,?_,?_,?_⟩
    ·refine ⟨by omega,?_⟩
     rw [qNH _ l i qAP.dflt h,ha]
     simp_all
     omega
    ·omega
    ·all_goals exact vcA
   ·have : i = l.length := by omega
    subst this
    rw [List.take_length] at ha
    rw [qGF,ha,decide_eq_true (by omega)];rfl
def qHK (n : qAE) : Bool := decide ((n.2.2.1.length : Int) ≤ 40) && decide ((n.2.2.2.2.1.length : Int) ≤ 300) && decide ((n.kids.length : Int) ≤ 60) && qGF n.2.2.2.1
instance f9 (k s : Int) (nm : List UInt8) (at_ : List qAJ) (d : List UInt8) (up : Int) (kids : List Int) :
  Fn BB 30 [.agg [.int .i64 k,.int .i64 s,.str nm,.rd qAP at_,.str d,.int .i64 up,.rd qAH kids]] True (.bool (qHK (k,s,nm,at_,d,up,kids))) := by
 refine Fn.intro (N := 24) [0,1,2] [] Tryz.call30 Tryz.func30 rfl rfl (by kernel_rfl) (fun hpre => ?_)
 all_goals exact vcA
def qA4 (l : List qAE) (most : Int) : Bool := decide (l.length ≤ most) && l.all qHK
instance f8 (l : List qAE) (most : Int) : Fn BB 22 [.agg [.rd qAC l],.int .i64 most] True (.bool (qA4 l most)) := by
 refine Fn.intro (N := 23) [0,1,2,4,6,11,13,14,15,16,21] [] Tryz.call22 Tryz.func22 rfl rfl (by kernel_rfl) (fun hpre => ?_)
 repeat' ((conv => whnf);first|(with_reducible first|rfl|exact qAF|exact qAG)|exact True.intro|intro _|refine WA ?_ ?_|refine WF ?_|refine W1 rfl ?_ ?_|refine W2 rfl ?_ ?_|refine W3 rfl ?_ ?_|refine W4 ?_ ?_|refine W5 rfl ?_ ?_|refine W6 ?_ ?_|refine WN ?_|refine X1 (W1 rfl ?_ ?_)|refine X1 (W2 rfl ?_ ?_)|refine X2 (W7 rfl ?_ ?_)|refine X3 (W7 rfl ?_ ?_)|refine X4 (W7 rfl ?_ ?_)|refine X5 (W7 rfl ?_ ?_))
 all_goals (try (conv => whnf))
 ·simp only [qA4,decide_eq_true_eq] at *
  rw [decide_eq_false (by omega)];rfl
 ·refine LoopStop.mk (α := Nat) (fun i => [(15,.int .i64 i)]) (fun _ => []) 20 (fun i => i ≤ l.length ∧ (l.take i).all qHK = true) (fun i => l.length - i) 0 (by simp) ?_ (fun i hi => ?_)
  ·repeat' ((conv => whnf);first|(with_reducible first|rfl|exact qAF|exact qAG)|exact True.intro|intro _|refine WA ?_ ?_|refine WF ?_|refine W1 rfl ?_ ?_|refine W2 rfl ?_ ?_|refine W3 rfl ?_ ?_|refine W4 ?_ ?_|refine W5 rfl ?_ ?_|refine W6 ?_ ?_|refine WN ?_|refine X1 (W1 rfl ?_ ?_)|refine X1 (W2 rfl ?_ ?_)|refine X2 (W7 rfl ?_ ?_)|refine X3 (W7 rfl ?_ ?_)|refine X4 (W7 rfl ?_ ?_)|refine X5 (W7 rfl ?_ ?_))
   all_goals (try (conv => whnf))
   all_goals (try rfl)
  ·obtain ⟨hi,ha⟩ := hi
   repeat' ((conv => whnf);first|(with_reducible first|rfl|exact qAF|exact qAG)|exact True.intro|intro _|refine WA ?_ ?_|refine WF ?_|refine W1 rfl ?_ ?_|refine W2 rfl ?_ ?_|refine W3 rfl ?_ ?_|refine W4 ?_ ?_|refine W5 rfl ?_ ?_|refine W6 ?_ ?_|refine WN ?_|refine X1 (W1 rfl ?_ ?_)|refine X1 (W2 rfl ?_ ?_)|refine X2 (W7 rfl ?_ ?_)|refine X3 (W7 rfl ?_ ?_)|refine X4 (W7 rfl ?_ ?_)|refine X5 (W7 rfl ?_ ?_))
   all_goals (try (conv => whnf))
   all_goals (try first|exact obA|refine Ob.mk ?_)
   all_goals (try simp only [ZA,ZB,ZC,ZD,ZE,ZF,ZG,ZH,ZI,ZJ,ZK,ZL,ZM,ZN,ZO,Int.toNat_natCast,UInt8.ofNat_toNat,cast_eq] at *)
   ·have h : i < l.length := by omega
    rw [qA4,qIN h (d := qAC.dflt)]
    ·simp
    ·simp_all
   ·have h : i < l.length := by omega
    refine Rnd.mk ⟨i + 1,?_,?_,?_⟩
    ·refine ⟨by omega,?_⟩
     rw [qNH _ l i qAC.dflt h,ha]
     simp_all
    ·omega
    ·all_goals exact vcA
   ·have : i = l.length := by omega
    subst this
    rw [List.take_length] at ha
    rw [qA4,ha,decide_eq_true (by omega)];rfl
end Go.Vc

namespace Go.Vc
open Go.Proofs
set_option maxRecDepth 10000
def qMS (l : List Int) (w : Int) : Int := if l.contains w then (l.idxOf w : Int) else -1
theorem qE3 {l : List Int} {w : Int} (h : l.contains w = false) : qMS l w = -1 := by rw [qMS,h];rfl
theorem qFY (l : List Int) (i : Nat) (w : Int) (h : i < l.length) : (l.take (i+1)).contains w = ((l.take i).contains w || (l.getD i 0 == w)) := by
 rw [take_snoc l i 0 h]
 simp only [List.contains_eq_any_beq,List.any_append,List.any_cons,List.any_nil,Bool.or_false]
 congr 1
 exact Bool.beq_comm
theorem qKI {l : List Int} {w : Int} {i : Nat} (h : i < l.length) (h1 : (l.take i).contains w = false) (h2 : w = l.getD i 0) : qMS l w = i := by
 have hc : l.contains w = true := by rw [h2];simp [List.getD,List.getElem?_eq_getElem h]
 rw [qMS,hc,if_pos rfl]
 have e := List.take_append_drop i l
 rw [← e,List.idxOf_append,if_neg (by simpa using h1),List.length_take,Nat.min_eq_left (by omega)]
 have e2 : l.drop i = w :: l.drop (i+1) := by rw [List.drop_eq_getElem_cons h,h2];simp [List.getD,List.getElem?_eq_getElem h]
 rw [e2,List.idxOf_cons_self];simp
instance f41 (l : List Int) (w : Int) : Fn BB 88 [.rd qAH l,.int .i64 w] True (.int .i64 (qMS l w)) := by
 refine Fn.intro (N := 19) [0,1,4,5,7,8,9,16] [] Tryz.call88 Tryz.func88 rfl rfl (by kernel_rfl) (fun hpre => ?_)
 repeat' ((conv => whnf);first|(with_reducible first|rfl|exact qAF|exact qAG)|exact True.intro|intro _|refine WA ?_ ?_|refine WF ?_|refine W1 rfl ?_ ?_|refine W2 rfl ?_ ?_|refine W3 rfl ?_ ?_|refine W4 ?_ ?_|refine W5 rfl ?_ ?_|refine W6 ?_ ?_|refine WN ?_|refine X1 (W1 rfl ?_ ?_)|refine X1 (W2 rfl ?_ ?_)|refine X2 (W7 rfl ?_ ?_)|refine X3 (W7 rfl ?_ ?_)|refine X4 (W7 rfl ?_ ?_)|refine X5 (W7 rfl ?_ ?_))
 all_goals (try (conv => whnf))
 refine LoopStop.mk (α := Nat) (fun i => [(8,.int .i64 i)]) (fun i => []) 20 (fun i => i ≤ l.length ∧ (l.take i).contains w = false) (fun i => l.length - i) 0 (by simp) ?_ (fun i hi => ?_)
 ·repeat' ((conv => whnf);first|(with_reducible first|rfl|exact qAF|exact qAG)|exact True.intro|intro _|refine WA ?_ ?_|refine WF ?_|refine W1 rfl ?_ ?_|refine W2 rfl ?_ ?_|refine W3 rfl ?_ ?_|refine W4 ?_ ?_|refine W5 rfl ?_ ?_|refine W6 ?_ ?_|refine WN ?_|refine X1 (W1 rfl ?_ ?_)|refine X1 (W2 rfl ?_ ?_)|refine X2 (W7 rfl ?_ ?_)|refine X3 (W7 rfl ?_ ?_)|refine X4 (W7 rfl ?_ ?_)|refine X5 (W7 rfl ?_ ?_))
  all_goals (try (conv => whnf))
  all_goals (try rfl)
 ·obtain ⟨hi,ha⟩ := hi
  repeat' ((conv => whnf);first|(with_reducible first|rfl|exact qAF|exact qAG)|exact True.intro|intro _|refine WA ?_ ?_|refine WF ?_|refine W1 rfl ?_ ?_|refine W2 rfl ?_ ?_|refine W3 rfl ?_ ?_|refine W4 ?_ ?_|refine W5 rfl ?_ ?_|refine W6 ?_ ?_|refine WN ?_|refine X1 (W1 rfl ?_ ?_)|refine X1 (W2 rfl ?_ ?_)|refine X2 (W7 rfl ?_ ?_)|refine X3 (W7 rfl ?_ ?_)|refine X4 (W7 rfl ?_ ?_)|refine X5 (W7 rfl ?_ ?_))
  all_goals (try (conv => whnf))
  all_goals (try first|exact obA|refine Ob.mk ?_)
  all_goals (try simp only [ZA,ZB,ZC,ZD,ZE,ZF,ZG,ZH,ZI,ZJ,ZK,ZL,ZM,ZN,ZO,Int.toNat_natCast,UInt8.ofNat_toNat,cast_eq] at *)
  ·rw [qKI (i := i) (by omega) (by simpa using ha) (by assumption)]
  ·have h : i < l.length := by omega
   refine Rnd.mk ⟨i + 1,?_,?_,?_⟩
   ·refine ⟨by omega,?_⟩
    rw [qFY l i w h,Bool.or_eq_false_iff]
    refine ⟨by simpa using ha,beq_eq_false_iff_ne.2 fun e => ?_⟩
    simp_all
   ·omega
   ·all_goals exact vcA
  ·have : i = l.length := by omega
   subst this
   rw [qE3 (by simpa using ha)]
instance f17 (l : List Int) (w : Int) : Fn BB 29 [.rd qAH l,.int .i64 w] True (.bool (decide (qMS l w ≥ 0))) := by
 refine Fn.intro (N := 9) [0,1,4] [] Tryz.call29 Tryz.func29 rfl rfl (by kernel_rfl) (fun hpre => ?_)
 all_goals exact vcA
end Go.Vc

namespace Go.Vc
open Go.Proofs
set_option maxRecDepth 10000
abbrev nd (l : List qAE) (i : Int) : qAE := l.getD i.toNat qAC.dflt
def qOL (l : List qAE) (kid : Int) : Int := if isT l kid && isT l (nd l kid).up then qMS (nd l (nd l kid).up).kids kid else -1
theorem qDU {l : List qAE} {i : Int} : isT l i = true ↔ 0 ≤ i ∧ i < l.length := by simp [isT]
theorem qSH {a b : Bool} (h : (!a || !b) = true) : (a && b) = false := by cases a <;> cases b <;> simp_all
theorem qP3 {a b : Bool} (h : (!a || !b) = false) : a = true ∧ b = true := by cases a <;> cases b <;> simp_all
def qHI : Nat → List qAE → Int → Int → Bool
 | 0,_,_,_ => false
 | n + 1,l,up,kid => if isT l kid then (if kid = up then true else qHI n l up (nd l kid).up) else false
def qL8 (l : List qAE) (up kid : Int) : Bool := isT l up && qHI (l.length + 1) l up kid
end Go.Vc

namespace Go.Vc
open Go.Proofs
set_option maxRecDepth 10000
set_option maxHeartbeats 4000000
def qK0 (nm : List UInt8) (a : qAJ) : Bool := a.1 == nm
def ixP {α : Type} (p : α → Bool) : List α → Int
 | [] => -1
 | x :: r => if p x = true then 0 else if ixP p r = -1 then -1 else ixP p r + 1
theorem qgX {α : Type} (p : α → Bool) (l : List α) : -1 ≤ ixP p l ∧ ixP p l < l.length ∨ ixP p l = -1 := by
 induction l with
 | nil => right;rfl
 | cons x r ih =>
  unfold ixP
  simp only [List.length_cons]
  split
  ·left;omega
  ·split
   ·right;rfl
   ·left;rename_i h;rcases ih with h2 | h2 <;> omega
theorem qjZ {α : Type} {p : α → Bool} {l : List α} {k : Nat} {d : α} (hk : k < l.length) (ha : (l.take k).all (fun x => !p x) = true) (h : p (l.getD k d) = true) : ixP p l = k := by
 induction l generalizing k with
 | nil => simp at hk
 | cons x r ih =>
  cases k with
  | zero => unfold ixP;rw [if_pos (by simpa using h)];rfl
  | succ k =>
   rw [List.take_succ_cons,List.all_cons,Bool.and_eq_true,Bool.not_eq_true'] at ha
   have := ih (by simpa using hk) ha.2 (by simpa using h)
   unfold ixP
   rw [if_neg (by rw [ha.1];decide),this,if_neg (by omega)]
   rfl
theorem qZC {α : Type} {p : α → Bool} {l : List α} (ha : l.all (fun x => !p x) = true) : ixP p l = -1 := by
 induction l with
 | nil => rfl
 | cons x r ih =>
  rw [List.all_cons,Bool.and_eq_true,Bool.not_eq_true'] at ha
  unfold ixP
  rw [if_neg (by rw [ha.1];decide),ih ha.2,if_pos rfl]
def qbZ (l : List qAJ) (nm : List UInt8) : List UInt8 := match l.find? (qK0 nm) with | some a => a.2 | none => []
instance tPl1 (a b nm : List UInt8) : FnM BB 175 [.agg [.str a,.str b],.loc 0 0] [(0,.box [.str nm])] True (.bool (a == nm)) [(0,.box [.str nm])] := by
 refine FnM.intro (N := 8) [0,1,2,3] [] 1 Tryz.call175 Tryz.func175 rfl rfl (by kernel_rfl) (fun hpre => ?_)
 all_goals exact vcA
instance xIx (l : List qAJ) (nm : List UInt8) : FnM BB 174 [.rd qAP l,.fn 175 [.loc 0 0]] [(0,.box [.str nm])] (l.length ≤ 100000) (.int .i64 (ixP (qK0 nm) l)) [(0,.box [.str nm])] := by
 refine FnM.intro (N := 19) [0,1,4,5,7,8,9,16] [] 1 Tryz.call174 Tryz.func174 rfl rfl (by kernel_rfl) (fun hpre => ?_)
 repeat' ((conv => whnf);first|(with_reducible first|rfl|exact qAF|exact qAG)|exact True.intro|intro _|refine WA ?_ ?_|refine WF ?_|refine W1 rfl ?_ ?_|refine W2 rfl ?_ ?_|refine W3 rfl ?_ ?_|refine W4 ?_ ?_|refine W5 rfl ?_ ?_|refine W6 ?_ ?_|refine WN ?_|refine X1 (W1 rfl ?_ ?_)|refine X1 (W2 rfl ?_ ?_)|refine X2 (W7 rfl ?_ ?_)|refine X3 (W7 rfl ?_ ?_)|refine X4 (W7 rfl ?_ ?_)|refine X5 (W7 rfl ?_ ?_))
 all_goals (try (conv => whnf))
 all_goals (try first|exact obA|refine Ob.mk ?_)
 refine LoopStop.mk (α := Nat) (fun k => [(8,.int .i64 k)]) (fun _ => []) 20 (fun k => k ≤ l.length ∧ (l.take k).all (fun x => !qK0 nm x) = true) (fun k => l.length - k) 0 (by simp) ?_ (fun k hk => ?_)
 ·all_goals exact vcA
 ·obtain ⟨hk,ha⟩ := hk
  repeat' ((conv => whnf);first|(with_reducible first|rfl|exact qAF|exact qAG)|exact True.intro|intro _|refine WA ?_ ?_|refine WF ?_|refine W1 rfl ?_ ?_|refine W2 rfl ?_ ?_|refine W3 rfl ?_ ?_|refine W4 ?_ ?_|refine W5 rfl ?_ ?_|refine W6 ?_ ?_|refine WN ?_|refine X1 (W1 rfl ?_ ?_)|refine X1 (W2 rfl ?_ ?_)|refine X2 (W7 rfl ?_ ?_)|refine X3 (W7 rfl ?_ ?_)|refine X4 (W7 rfl ?_ ?_)|refine X5 (W7 rfl ?_ ?_))
  all_goals (try (conv => whnf))
  all_goals (try first|exact obA|refine Ob.mk ?_)
  all_goals (try simp only [Int.toNat_natCast] at *)
  ·have hp := of_decide_eq_true ‹decide ((k : Int) < (l.length : Int)) = true›
   have h : ((l.getD k qAP.dflt).1 == nm) = true := ‹_›
   exact (qjZ (p := qK0 nm) (d := qAP.dflt) (by omega) ha h).symm
  ·have hp := of_decide_eq_true ‹decide ((k : Int) < (l.length : Int)) = true›
   have h : ((l.getD k qAP.dflt).1 == nm) = false := ‹_›
   refine Rnd.mk ⟨k + 1,⟨by omega,?_⟩,by omega,?_⟩
   ·rw [qNH (fun x => !qK0 nm x) l k qAP.dflt (by omega),ha]
    show (true && !((l.getD k qAP.dflt).1 == nm)) = true
    rw [h];rfl
   ·all_goals exact vcA
  ·have hp := of_decide_eq_false ‹decide ((k : Int) < (l.length : Int)) = false›
   have : k = l.length := by omega
   subst this
   rw [List.take_length] at ha
   exact (qZC ha).symm
instance xPlace (l : List qAJ) (nm : List UInt8) : Fn BB 140 [.rd qAP l,.str nm] (l.length ≤ 100000) (.int .i64 (ixP (qK0 nm) l)) := by
 refine Fn.intro (N := 8) [0,1,3,4] [] Tryz.call140 Tryz.func140 rfl rfl (by kernel_rfl) (fun hpre => ?_)
 all_goals exact vcA
theorem qdC (l : List qAJ) (nm : List UInt8) : (decide (ixP (qK0 nm) l ≥ 0) = l.any (qK0 nm)) ∧ (0 ≤ ixP (qK0 nm) l → (ixP (qK0 nm) l).toNat < l.length ∧ (l.getD (ixP (qK0 nm) l).toNat qAP.dflt).2 = qbZ l nm) ∧ (ixP (qK0 nm) l < 0 → qbZ l nm = []) := by
 induction l with
 | nil => exact ⟨rfl,fun h => absurd (show (0:Int) ≤ -1 from h) (by decide),fun _ => rfl⟩
 | cons x r ih =>
  obtain ⟨i1,i2,i3⟩ := ih
  have hg := qgX (qK0 nm) r
  unfold ixP qbZ
  rw [List.any_cons,List.find?_cons]
  cases h : qK0 nm x with
  | true => simp
  | false =>
   simp only [Bool.false_eq_true,if_false,Bool.false_or]
   split
   ·rename_i q
    refine ⟨?_,fun h => absurd h (by decide),fun _ => i3 (by omega)⟩
    rw [← i1,q]
   ·rename_i q
    have h0 : 0 ≤ ixP (qK0 nm) r := by rcases hg with h | h <;> omega
    obtain ⟨j1,j2⟩ := i2 h0
    refine ⟨?_,fun _ => ?_,fun h => by omega⟩
    ·rw [← i1,Bool.eq_iff_iff];simp;omega
    ·rw [show (ixP (qK0 nm) r + 1).toNat = (ixP (qK0 nm) r).toNat + 1 by omega]
     refine ⟨by rw [List.length_cons];omega,?_⟩
     rw [List.getD_cons_succ];exact j2
instance xGet (l : List qAJ) (nm : List UInt8) : Fn BB 90 [.rd qAP l,.str nm] (l.length ≤ 100000) (.tup [.str (qbZ l nm),.bool (l.any (qK0 nm))]) := by
 refine Fn.intro (N := 17) [0,1,4,5,6,11] [] Tryz.call90 Tryz.func90 rfl rfl (by kernel_rfl) (fun hpre => ?_)
 obtain ⟨h1,h2,h3⟩ := qdC l nm
 repeat' ((conv => whnf);first|(with_reducible first|rfl|exact qAF|exact qAG)|exact True.intro|intro _|refine WA ?_ ?_|refine WF ?_|refine W1 rfl ?_ ?_|refine W2 rfl ?_ ?_|refine W3 rfl ?_ ?_|refine W4 ?_ ?_|refine W5 rfl ?_ ?_|refine W6 ?_ ?_|refine WN ?_|refine X1 (W1 rfl ?_ ?_)|refine X1 (W2 rfl ?_ ?_)|refine X2 (W7 rfl ?_ ?_)|refine X3 (W7 rfl ?_ ?_)|refine X4 (W7 rfl ?_ ?_)|refine X5 (W7 rfl ?_ ?_))
 all_goals (try (conv => whnf))
 all_goals (try first|exact obA|refine Ob.mk ?_)
 all_goals (first | (have hp := of_decide_eq_true ‹decide (ixP (qK0 nm) l ≥ 0) = true›;first | exact (h2 hp).2 | exact (h2 hp).1 | (rw [← h1];exact (‹decide (ixP (qK0 nm) l ≥ 0) = true›).symm)) | (have hp := of_decide_eq_false ‹decide (ixP (qK0 nm) l ≥ 0) = false›;first | exact (h3 (by omega)).symm | (rw [← h1];exact (‹decide (ixP (qK0 nm) l ≥ 0) = false›).symm)))
end Go.Vc

namespace Go.Vc
open Go.Proofs
set_option maxRecDepth 10000
def qE9 (l : List qAE) : Bool := decide (l.length ≤ 1000) && l.all fun n => decide (n.2.2.2.1.length ≤ 1000) && decide (n.kids.length ≤ 1000)
end Go.Vc

namespace Go.Vc
open Go.Proofs
set_option maxRecDepth 10000
theorem qJW {l : List qAE} (h : qE9 l = true) (i : Int) (hi : isT l i = true) : (nd l i).2.2.2.1.length ≤ 1000 ∧ (nd l i).kids.length ≤ 1000 := by
 simp only [qE9,Bool.and_eq_true,List.all_eq_true,decide_eq_true_eq] at h
 obtain ⟨h1,h2⟩ := qDU.1 hi
 refine h.2 (nd l i) ?_
 have : i.toNat < l.length := by omega
 simp [nd,List.getD,List.getElem?_eq_getElem this]
theorem qN6 {l : List qAE} (h : qE9 l = true) : l.length ≤ 1000 := by
 simp only [qE9,Bool.and_eq_true,decide_eq_true_eq] at h
 exact h.1
end Go.Vc

namespace Go.Vc
open Go.Proofs
set_option maxRecDepth 10000
def qY0 : qAE := ((0 : Int),(0 : Int),([] : List UInt8),([] : List qAJ),([] : List UInt8),(-1 : Int),([] : List Int))
theorem FnM.wk {B : Base} {f : FuncId} {args args' : List SV} {Φ : Phi} {pre : Prop} {res : SV} {Φ' : Phi} (F : FnM B f args Φ pre res Φ') (h : ∀ r β vs,qAT r β args' vs → qAT r β args vs) : FnM B f args' Φ pre res Φ' :=
 ⟨F.call,fun hp r β w vs hG m hl => F.ok hp r β w vs hG m (h r β vs hl)⟩
theorem qYR {r β v} {τ : Ty} (h : Rel r β .nils v) : Rel r β (.rd τ []) v := by cases h;exact .rd .litsE
end Go.Vc

namespace Go.Vc
set_option autoImplicit false
abbrev Ev := Nat × Int × Nat × Bool
def unseen (s : List Bool) : Nat := s.count false
def okK (s : List Bool) (k : Int) : Bool := decide (0 ≤ k) && !(s.getD k.toNat true)
theorem qBH {s : List Bool} {k : Int} (h : okK s k = true) : 0 ≤ k ∧ k.toNat < s.length ∧ s[k.toNat]? = some false := by
 unfold okK at h
 simp only [Bool.and_eq_true,decide_eq_true_eq,Bool.not_eq_true'] at h
 have hl : k.toNat < s.length := by
  rcases Nat.lt_or_ge k.toNat s.length with q | q
  ·exact q
  ·have := h.2;simp [List.getD,List.getElem?_eq_none q] at this
 refine ⟨h.1,hl,?_⟩
 have := h.2
 rw [List.getD_eq_getElem?_getD,List.getElem?_eq_getElem hl] at this
 rw [List.getElem?_eq_getElem hl]
 simpa using this
theorem qA8 {s : List Bool} {k : Nat} (h : s[k]? = some false) : unseen (s.set k true) + 1 = unseen s := by
 unfold unseen
 induction s generalizing k with
 | nil => cases h
 | cons x r ih =>
  cases k with
  | zero => simp at h;subst h;simp
  | succ k =>
   have := ih (k := k) (by simpa using h)
   simp only [List.set_cons_succ,List.count_cons]
   omega
def dfs (K : Nat → List Int) (s : List Bool) (i j c : Nat) : List Ev × List Bool × Nat :=
 if h : j < (K i).length then
  if hk : okK s ((K i).getD j 0) = true then
   let r1 := dfs K (s.set ((K i).getD j 0).toNat true) ((K i).getD j 0).toNat 0 (c + 1)
   if hg : unseen r1.2.1 < unseen s then
    let r2 := dfs K r1.2.1 i (j + 1) r1.2.2
    ((((K i).getD j 0).toNat,(i : Int),c,false) :: (r1.1 ++ r2.1),r2.2.1,r2.2.2)
   else ([],s,c)
  else dfs K s i (j + 1) c
 else ([(i,0,c,true)],s,c + 1)
termination_by (unseen s,(K i).length - j)
decreasing_by
 ·have := qA8 (qBH hk).2.2
  exact Prod.Lex.left _ _ (by omega)
 ·exact Prod.Lex.left _ _ hg
 ·exact Prod.Lex.right _ (by omega)
variable {K : Nat → List Int}
theorem qCZ {s : List Bool} {i j c : Nat} (h : ¬ j < (K i).length) : dfs K s i j c = ([(i,0,c,true)],s,c + 1) := by
 rw [dfs,dif_neg h]
theorem qC0 {s : List Bool} {i j c : Nat} (h : j < (K i).length) (hk : okK s ((K i).getD j 0) = false) : dfs K s i j c = dfs K s i (j + 1) c := by
 rw [dfs,dif_pos h,dif_neg (by rw [hk];decide)]
theorem qVZ {s : List Bool} {i j c : Nat} (h : j < (K i).length) (hk : okK s ((K i).getD j 0) = true) : dfs K s i j c =
  (let r1 := dfs K (s.set ((K i).getD j 0).toNat true) ((K i).getD j 0).toNat 0 (c + 1)
   if hg : unseen r1.2.1 < unseen s then
    let r2 := dfs K r1.2.1 i (j + 1) r1.2.2
    ((((K i).getD j 0).toNat,(i : Int),c,false) :: (r1.1 ++ r2.1),r2.2.1,r2.2.2)
   else ([],s,c)) := by
 rw [dfs,dif_pos h,dif_pos hk]
theorem qTQ {P : List Bool → Nat → Nat → Nat → Prop}
  (h : ∀ s i j c,(∀ s' i' j' c',(unseen s' < unseen s ∨ (unseen s' = unseen s ∧ (K i').length - j' < (K i).length - j)) → P s' i' j' c') → P s i j c) : ∀ s i j c,P s i j c := by
 have main : ∀ a b s i j c,unseen s = a → (K i).length - j = b → P s i j c := by
  intro a
  induction a using Nat.strongRecOn with
  | ind a iha =>
   intro b
   induction b using Nat.strongRecOn with
   | ind b ihb =>
    intro s i j c ha hb
    refine h s i j c fun s' i' j' c' q => ?_
    rcases q with q | ⟨q1,q2⟩
    ·exact iha (unseen s') (by omega) _ s' i' j' c' rfl rfl
    ·exact ihb _ (by omega) s' i' j' c' (by omega) rfl
 exact fun s i j c => main _ _ s i j c rfl rfl
theorem qW0 : ∀ (s : List Bool) (i j c : Nat),unseen (dfs K s i j c).2.1 ≤ unseen s := by
 refine qTQ (K := K) fun s i j c ih => ?_
 by_cases h : j < (K i).length
 ·cases hk : okK s ((K i).getD j 0) with
  | false => rw [qC0 h hk];exact ih s i (j + 1) c (.inr ⟨rfl,by omega⟩)
  | true =>
   rw [qVZ h hk]
   dsimp only
   split
   ·rename_i hg
    have := ih _ i (j + 1) (dfs K (s.set ((K i).getD j 0).toNat true) ((K i).getD j 0).toNat 0 (c + 1)).2.2 (.inl hg)
    exact Nat.le_trans this (Nat.le_of_lt hg)
   ·exact Nat.le_refl _
 ·rw [qCZ h];exact Nat.le_refl _
theorem qOF {s : List Bool} {k : Nat} (hk : s[k]? = some false) (c : Nat) : unseen (dfs K (s.set k true) k 0 c).2.1 < unseen s := by
 have h1 := qW0 (K := K) (s.set k true) k 0 c
 have h2 := qA8 hk
 omega
theorem qE8 {s : List Bool} {i j c : Nat} (h : j < (K i).length) (hk : okK s ((K i).getD j 0) = true) : dfs K s i j c =
    ((((K i).getD j 0).toNat,(i : Int),c,false) :: ((dfs K (s.set ((K i).getD j 0).toNat true) ((K i).getD j 0).toNat 0 (c + 1)).1 ++
      (dfs K (dfs K (s.set ((K i).getD j 0).toNat true) ((K i).getD j 0).toNat 0 (c + 1)).2.1 i (j + 1) (dfs K (s.set ((K i).getD j 0).toNat true) ((K i).getD j 0).toNat 0 (c + 1)).2.2).1),
     (dfs K (dfs K (s.set ((K i).getD j 0).toNat true) ((K i).getD j 0).toNat 0 (c + 1)).2.1 i (j + 1) (dfs K (s.set ((K i).getD j 0).toNat true) ((K i).getD j 0).toNat 0 (c + 1)).2.2).2.1,
     (dfs K (dfs K (s.set ((K i).getD j 0).toNat true) ((K i).getD j 0).toNat 0 (c + 1)).2.1 i (j + 1) (dfs K (s.set ((K i).getD j 0).toNat true) ((K i).getD j 0).toNat 0 (c + 1)).2.2).2.2) := by
  rw [qVZ h hk]
  dsimp only
  rw [dif_pos (qOF (qBH hk).2.2 (c + 1))]
theorem qGI {P : List Bool → Nat → Nat → Nat → Prop}
  (he : ∀ s i j c,¬ j < (K i).length → P s i j c)
  (hb : ∀ s i j c,j < (K i).length → okK s ((K i).getD j 0) = false → P s i (j + 1) c → P s i j c)
  (ho : ∀ s i j c,j < (K i).length → okK s ((K i).getD j 0) = true → P (s.set ((K i).getD j 0).toNat true) ((K i).getD j 0).toNat 0 (c + 1) →
   (P (dfs K (s.set ((K i).getD j 0).toNat true) ((K i).getD j 0).toNat 0 (c + 1)).2.1 i (j + 1) (dfs K (s.set ((K i).getD j 0).toNat true) ((K i).getD j 0).toNat 0 (c + 1)).2.2) → P s i j c) :
  ∀ s i j c,P s i j c := by
 refine qTQ (K := K) fun s i j c ih => ?_
 by_cases h : j < (K i).length
 ·cases hk : okK s ((K i).getD j 0) with
  | false => exact hb s i j c h hk (ih s i (j + 1) c (.inr ⟨rfl,by omega⟩))
  | true =>
   have h2 := qA8 (qBH hk).2.2
   exact ho s i j c h hk (ih _ _ _ _ (.inl (by omega))) (ih _ _ _ _ (.inl (qOF (qBH hk).2.2 (c + 1))))
 ·exact he s i j c h
def qI9 (K : Nat → List Int) : List (Nat × Nat) → List Bool → Nat → List Ev
 | [],_,_ => []
 | (i,j) :: rest,s,c => (dfs K s i j c).1 ++ qI9 K rest (dfs K s i j c).2.1 (dfs K s i j c).2.2
theorem qTZ {s : List Bool} {i j c : Nat} {rest : List (Nat × Nat)} (h : ¬ j < (K i).length) : qI9 K ((i,j) :: rest) s c = (i,0,c,true) :: qI9 K rest s (c + 1) := by
 rw [qI9,qCZ h];rfl
theorem qTS {s : List Bool} {i j c : Nat} {rest : List (Nat × Nat)} (h : j < (K i).length) (hk : okK s ((K i).getD j 0) = false) : qI9 K ((i,j) :: rest) s c = qI9 K ((i,j + 1) :: rest) s c := by
 rw [qI9,qI9,qC0 h hk]
theorem qWF {s : List Bool} {i j c : Nat} {rest : List (Nat × Nat)} (h : j < (K i).length) (hk : okK s ((K i).getD j 0) = true) :
  qI9 K ((i,j) :: rest) s c = (((K i).getD j 0).toNat,(i : Int),c,false) :: qI9 K ((((K i).getD j 0).toNat,0) :: (i,j + 1) :: rest) (s.set ((K i).getD j 0).toNat true) (c + 1) := by
 rw [qI9,qE8 h hk,qI9,qI9]
 simp only [List.cons_append,List.append_assoc]
def qQM (K : Nat → List Int) (n : Nat) : List Ev := if n = 0 then [] else (0, -1,0,false) :: qI9 K [(0,0)] ((List.replicate n false).set 0 true) 1
end Go.Vc

namespace Go.Vc
set_option autoImplicit false
structure St where
 L : List Nat
 P : List Nat
 I : List Int
 O : List Int
 m : Nat
def St.step (x : St) (e : Ev) : St :=
 if e.2.2.2 = true then { x with P := x.P.dropLast,O := x.O.set e.1 (x.m : Int),m := x.m + 1 }
 else { x with L := x.L ++ [e.1],P := x.P ++ [e.1],I := x.I.set e.1 (x.m : Int),m := x.m + 1 }
structure Good (n : Nat) (x : St) : Prop where
 lI : x.I.length = n
 lO : x.O.length = n
 lt : ∀ u ∈ x.L,u < n
 nod : x.L.Nodup
 out : ∀ u,u ∉ x.L → x.I.getD u (-1) = -1 ∧ x.O.getD u (-1) = -1
 rI : ∀ u ∈ x.L,0 ≤ x.I.getD u (-1) ∧ x.I.getD u (-1) < x.m
 rO : ∀ u ∈ x.L,x.O.getD u (-1) = -1 ∨ (x.I.getD u (-1) < x.O.getD u (-1) ∧ x.O.getD u (-1) < x.m)
 srt : x.L.Pairwise fun a b => x.I.getD a (-1) < x.I.getD b (-1)
 stk : x.P = x.L.filter fun u => x.O.getD u (-1) == -1
 nest : ∀ u ∈ x.L,∀ v ∈ x.L,x.I.getD u (-1) < x.I.getD v (-1) → x.O.getD u (-1) = -1 ∨ x.O.getD u (-1) < x.I.getD v (-1) ∨ (x.O.getD v (-1) ≠ -1 ∧ x.O.getD v (-1) < x.O.getD u (-1))
 dis : ∀ u ∈ x.L,∀ v ∈ x.L,x.O.getD u (-1) ≠ -1 → x.O.getD u (-1) ≠ x.I.getD v (-1) ∧ (x.O.getD v (-1) = x.O.getD u (-1) → u = v)
 cnt : x.m + x.P.length = 2 * x.L.length
def qt6 (n : Nat) (x : St) (e : Ev) : Prop :=
 e.2.2.1 = x.m ∧ (if e.2.2.2 = true then x.P.getLast? = some e.1 else e.1 < n ∧ e.1 ∉ x.L)
theorem qDF {α : Type} (l : List α) (i j : Nat) (a d : α) : (l.set i a).getD j d = if i = j ∧ i < l.length then a else l.getD j d := by
 rw [List.getD_eq_getElem?_getD,List.getElem?_set]
 by_cases h : i = j
 ·subst h
  by_cases hl : i < l.length
  ·simp [hl]
  ·simp [hl,List.getD_eq_getElem?_getD,List.getElem?_eq_none (Nat.le_of_not_lt hl)]
 ·simp [h,List.getD_eq_getElem?_getD]
theorem Good.into {n : Nat} {x : St} (g : Good n x) {v : Nat} (hv : v < n) (hn : v ∉ x.L) :
  Good n { x with L := x.L ++ [v],P := x.P ++ [v],I := x.I.set v (x.m : Int),m := x.m + 1 } := by
 have hI : ∀ u,(x.I.set v (x.m : Int)).getD u (-1) = if v = u then (x.m : Int) else x.I.getD u (-1) := by
  intro u
  rw [qDF]
  by_cases h : v = u
  ·rw [if_pos h,if_pos ⟨h,by rw [g.lI];exact hv⟩]
  ·rw [if_neg h,if_neg (fun q => h q.1)]
 have ho := g.out v hn
 have hne : ∀ u ∈ x.L,v ≠ u := fun u hu e => hn (e ▸ hu)
 refine ⟨by simp [g.lI],g.lO,?_,?_,?_,?_,?_,?_,?_,?_,?_,?_⟩ <;> dsimp only
 ·intro u hu
  rcases List.mem_append.1 hu with h | h
  ·exact g.lt u h
  ·simp at h;subst h;exact hv
 ·rw [List.nodup_append]
  refine ⟨g.nod,by simp,?_⟩
  intro a ha b hb e
  simp at hb
  subst hb;subst e
  exact hn ha
 ·intro u hu
  simp only [List.mem_append,List.mem_singleton,not_or] at hu
  rw [hI,if_neg (fun e => hu.2 e.symm)]
  exact g.out u hu.1
 ·intro u hu
  rw [hI]
  rcases List.mem_append.1 hu with h | h
  ·rw [if_neg (hne u h)]
   have := g.rI u h
   omega
  ·simp at h;subst h;rw [if_pos rfl];omega
 ·intro u hu
  rw [hI]
  rcases List.mem_append.1 hu with h | h
  ·rw [if_neg (hne u h)]
   have := g.rO u h
   omega
  ·simp at h;subst h;exact .inl ho.2
 ·rw [List.pairwise_append]
  refine ⟨?_,by simp,?_⟩
  ·refine g.srt.imp_of_mem ?_
   intro a b ha hb h
   rw [hI,hI,if_neg (hne a ha),if_neg (hne b hb)]
   exact h
  ·intro a ha b hb
   simp at hb;subst hb
   rw [hI,hI,if_neg (hne a ha),if_pos rfl]
   exact (g.rI a ha).2
 ·rw [List.filter_append, ← g.stk]
  simp only [List.filter_cons,List.filter_nil,ho.2]
  rfl
 ·intro u hu w hw
  rw [hI,hI]
  rcases List.mem_append.1 hu with h | h
  ·rw [if_neg (hne u h)]
   rcases List.mem_append.1 hw with k | k
   ·rw [if_neg (hne w k)];exact g.nest u h w k
   ·simp at k;subst k
    rw [if_pos rfl]
    intro _
    have := g.rO u h
    omega
  ·simp at h;subst h
   rw [if_pos rfl]
   exact fun _ => .inl ho.2
 ·intro u hu w hw hq
  rw [hI]
  rcases List.mem_append.1 hu with h | h
  ·rcases List.mem_append.1 hw with k | k
   ·rw [if_neg (hne w k)];exact g.dis u h w k hq
   ·simp at k;subst k
    rw [if_pos rfl]
    have := g.rO u h
    refine ⟨by omega,fun e => ?_⟩
    rw [ho.2] at e
    exact absurd e.symm hq
  ·simp at h;subst h
   exact absurd ho.2 hq
 ·have := g.cnt
  simp only [List.length_append,List.length_cons,List.length_nil]
  omega
theorem qSO {α : Type} [BEq α] [LawfulBEq α] {l : List α} (hn : l.Nodup) {p q : α → Bool} {v : α} (hv : (l.filter p).getLast? = some v)
  (hq : ∀ u,q u = (p u && !(u == v))) : l.filter q = (l.filter p).dropLast := by
 have e : l.filter q = (l.filter p).filter fun u => !(u == v) := by
  rw [List.filter_filter]
  exact List.filter_congr fun u _ => by rw [hq u,Bool.and_comm]
 rw [e]
 have hnp := hn.filter p
 generalize l.filter p = m at *
 rcases List.eq_nil_or_concat m with rfl | ⟨r,a,rfl⟩
 ·simp at hv
 ·rw [List.concat_eq_append] at *
  simp at hv
  subst hv
  rw [List.pairwise_append] at hnp
  simp only [List.filter_append,List.filter_cons,List.filter_nil,beq_self_eq_true,Bool.not_true,Bool.false_eq_true,if_false,List.append_nil,List.dropLast_concat]
  rw [List.filter_eq_self]
  intro u hu
  have := hnp.2.2 u hu a (by simp)
  simpa using this
theorem Good.leave {n : Nat} {x : St} (g : Good n x) {v : Nat} (hl : x.P.getLast? = some v) :
  Good n { x with P := x.P.dropLast,O := x.O.set v (x.m : Int),m := x.m + 1 } := by
 have hvP : v ∈ x.P := List.mem_of_getLast? hl
 have hvP' := hvP
 rw [g.stk,List.mem_filter] at hvP'
 have hvL := hvP'.1
 have hvO : x.O.getD v (-1) = -1 := by simpa using hvP'.2
 have hvn := g.lt v hvL
 have hO : ∀ u,(x.O.set v (x.m : Int)).getD u (-1) = if v = u then (x.m : Int) else x.O.getD u (-1) := by
  intro u
  rw [qDF]
  by_cases h : v = u
  ·rw [if_pos h,if_pos ⟨h,by rw [g.lO];exact hvn⟩]
  ·rw [if_neg h,if_neg (fun q => h q.1)]
 have hlast : ∀ w ∈ x.L,x.I.getD v (-1) < x.I.getD w (-1) → x.O.getD w (-1) ≠ -1 := by
  intro w hw hlt ho
  have hwP : w ∈ x.P := by rw [g.stk,List.mem_filter];exact ⟨hw,by simpa using ho⟩
  have hs : x.P.Pairwise fun a b => x.I.getD a (-1) < x.I.getD b (-1) := by rw [g.stk];exact g.srt.filter _
  rcases List.eq_nil_or_concat x.P with he | ⟨r,a,he⟩
  ·rw [he] at hl;cases hl
  ·rw [List.concat_eq_append] at he
   rw [he] at hl hwP hs
   simp at hl
   subst hl
   rw [List.pairwise_append] at hs
   rcases List.mem_append.1 hwP with h | h
   ·have := hs.2.2 w h a (by simp);omega
   ·simp at h;subst h;omega
 refine ⟨g.lI,by simp [g.lO],g.lt,g.nod,?_,?_,?_,g.srt,?_,?_,?_,?_⟩ <;> dsimp only
 ·intro u hu
  rw [hO,if_neg (fun e : v = u => hu (e ▸ hvL))]
  exact g.out u hu
 ·intro u hu
  have := g.rI u hu
  omega
 ·intro u hu
  rw [hO]
  have h1 := g.rI u hu
  have h2 := g.rO u hu
  split <;> omega
 ·rw [g.stk] at hl
  rw [g.stk]
  refine (qSO g.nod hl fun u => ?_).symm
  rw [hO]
  by_cases h : v = u
  ·subst h;rw [if_pos rfl]
   have : ((x.m : Int) == -1) = false := beq_eq_false_iff_ne.mpr (by omega)
   rw [this];simp
  ·rw [if_neg h,show (u == v) = false from beq_eq_false_iff_ne.mpr (fun e => h e.symm)];simp
 ·intro u hu w hw hlt
  rw [hO,hO]
  have h0 := g.nest u hu w hw hlt
  have hru := g.rO u hu
  by_cases h : v = u
  ·subst h
   rw [if_pos rfl]
   have hwo := hlast w hw hlt
   have hrw := g.rO w hw
   rw [if_neg (by rintro rfl;omega)]
   omega
  ·rw [if_neg h]
   by_cases h' : v = w
   ·subst h'
    rw [if_pos rfl]
    omega
   ·rw [if_neg h'];exact h0
 ·intro u hu w hw hq
  rw [hO] at hq ⊢
  rw [hO]
  have hru := g.rO u hu
  have hrw := g.rO w hw
  have hiw := g.rI w hw
  by_cases h : v = u
  ·subst h
   rw [if_pos rfl] at hq ⊢
   refine ⟨by omega,fun e => ?_⟩
   by_cases h' : v = w
   ·exact h'
   ·rw [if_neg h'] at e;omega
  ·rw [if_neg h] at hq ⊢
   have h0 := g.dis u hu w hw hq
   refine ⟨h0.1,fun e => ?_⟩
   by_cases h' : v = w
   ·rw [if_pos h'] at e;omega
   ·rw [if_neg h'] at e;exact h0.2 e
 ·have := g.cnt
  have hp : 0 < x.P.length := List.length_pos_of_mem hvP
  simp only [List.length_dropLast]
  omega
theorem Good.step {n : Nat} {x : St} (g : Good n x) {e : Ev} (h : qt6 n x e) : Good n (x.step e) := by
 obtain ⟨h1,h2⟩ := h
 unfold St.step
 split
 ·rename_i hl
  rw [if_pos hl] at h2
  exact g.leave h2
 ·rename_i hl
  rw [if_neg hl] at h2
  exact g.into h2.1 h2.2
def qLB (n : Nat) : St → List Ev → Prop
 | _,[] => True
 | x,e :: r => qt6 n x e ∧ qLB n (x.step e) r
def St.run (x : St) (l : List Ev) : St := l.foldl St.step x
theorem qYQ {n : Nat} : ∀ {x : St} {a b : List Ev},qLB n x a → qLB n (x.run a) b → qLB n x (a ++ b) := by
 intro x a
 induction a generalizing x with
 | nil => intro b _ h;exact h
 | cons e a ih => intro b h1 h2;exact ⟨h1.1,ih h1.2 h2⟩
theorem qH0 (x : St) (a b : List Ev) : x.run (a ++ b) = (x.run a).run b := by unfold St.run;rw [List.foldl_append]
theorem Good.run {n : Nat} : ∀ {l : List Ev} {x : St},Good n x → qLB n x l → Good n (x.run l) := by
 intro l
 induction l with
 | nil => intro x g _;exact g
 | cons e l ih => intro x g h;exact ih (g.step h.1) h.2
def Seen (s : List Bool) (x : St) : Prop := ∀ u,u < s.length → (s.getD u true = true ↔ u ∈ x.L)
theorem qdN {K : Nat → List Int} : ∀ (s : List Bool) (i j c : Nat),(dfs K s i j c).2.1.length = s.length := by
 refine qGI (K := K) ?_ ?_ ?_
 ·intro s i j c h;rw [qCZ h]
 ·intro s i j c h hk ih;rw [qC0 h hk];exact ih
 ·intro s i j c h hk i1 i2;rw [qE8 h hk];dsimp only;rw [i2,i1,List.length_set]
theorem qaL {K : Nat → List Int} (n : Nat) : ∀ (s : List Bool) (i j c : Nat) (x : St) (P0 : List Nat),s.length = n → Seen s x → x.P = P0 ++ [i] → x.m = c →
  qLB n x (dfs K s i j c).1 ∧ (x.run (dfs K s i j c).1).P = P0 ∧ (x.run (dfs K s i j c).1).m = (dfs K s i j c).2.2 ∧ Seen (dfs K s i j c).2.1 (x.run (dfs K s i j c).1) := by
 refine qGI (K := K) ?_ ?_ ?_
 ·intro s i j c h x P0 hs hx hP hm
  rw [qCZ h]
  have e : x.run [(i,0,c,true)] = { x with P := x.P.dropLast,O := x.O.set i (x.m : Int),m := x.m + 1 } := rfl
  refine ⟨⟨⟨hm.symm,?_⟩,trivial⟩,?_,?_,?_⟩
  ·rw [if_pos rfl,hP];simp
  ·rw [e];dsimp only;rw [hP];simp
  ·rw [e];dsimp only;rw [hm]
  ·rw [e];exact hx
 ·intro s i j c h hk ih
  rw [qC0 h hk];exact ih
 ·intro s i j c h hk i1 i2 x P0 hs hx hP hm
  have hok := qBH hk
  rw [qE8 h hk]
  dsimp only
  generalize hkk : ((K i).getD j 0).toNat = k at *
  have hkn : k < n := by rw [← hs];exact hok.2.1
  have hkL : k ∉ x.L := by
   intro q
   have := (hx k (by omega)).2 q
   rw [List.getD_eq_getElem?_getD,hok.2.2] at this
   cases this
  have e0 : x.step (k,(i : Int),c,false) = { x with L := x.L ++ [k],P := x.P ++ [k],I := x.I.set k (x.m : Int),m := x.m + 1 } := rfl
  have hx1 : Seen (s.set k true) (x.step (k,(i : Int),c,false)) := by
   intro u hu
   rw [List.length_set] at hu
   rw [qDF,e0]
   dsimp only
   rw [List.mem_append,List.mem_singleton]
   by_cases q : k = u
   ·rw [if_pos ⟨q,by omega⟩];simp [q]
   ·rw [if_neg (fun z => q z.1),hx u hu]
    constructor
    ·exact .inl
    ·rintro (z | z)
     ·exact z
     ·exact absurd z.symm q
  obtain ⟨a1,a2,a3,a4⟩ := i1 (x.step (k,(i : Int),c,false)) x.P (by rw [List.length_set];exact hs) hx1 (by rw [e0]) (by rw [e0];dsimp only;rw [hm])
  generalize hr1 : dfs K (s.set k true) k 0 (c + 1) = r1 at *
  have hl1 : r1.2.1.length = n := by rw [← hr1,qdN,List.length_set,hs]
  obtain ⟨b1,b2,b3,b4⟩ := i2 ((x.step (k,(i : Int),c,false)).run r1.1) P0 hl1 a4 (by rw [a2,hP]) a3
  refine ⟨⟨⟨hm.symm,?_⟩,qYQ a1 b1⟩,?_,?_,?_⟩
  ·rw [if_neg (by simp)];exact ⟨hkn,hkL⟩
  ·show ((x.step _).run (r1.1 ++ _)).P = P0;rw [qH0];exact b2
  ·show ((x.step _).run (r1.1 ++ _)).m = _;rw [qH0];exact b3
  ·show Seen _ ((x.step _).run (r1.1 ++ _));rw [qH0];exact b4
def st0 (n : Nat) : St := { L := [],P := [],I := List.replicate n (-1),O := List.replicate n (-1),m := 0 }
theorem qOE {α : Type} (n : Nat) (a : α) (u : Nat) : (List.replicate n a).getD u a = a := by
 rw [List.getD_eq_getElem?_getD,List.getElem?_replicate]
 split <;> rfl
theorem qkG (n : Nat) : Good n (st0 n) := by
 refine ⟨by simp [st0],by simp [st0],by simp [st0],by simp [st0],?_,by simp [st0],by simp [st0],by simp [st0],by simp [st0],by simp [st0],by simp [st0],by simp [st0]⟩
 intro u _
 exact ⟨qOE n _ u,qOE n _ u⟩
theorem qW5 (K : Nat → List Int) (n : Nat) : qLB n (st0 n) (qQM K n) ∧ ((st0 n).run (qQM K n)).P = [] := by
 unfold qQM
 split
 ·exact ⟨trivial,rfl⟩
 ·rename_i hn
  have hn : 0 < n := by omega
  have hseen : Seen ((List.replicate n false).set 0 true) ((st0 n).step (0, -1,0,false)) := by
   intro u hu
   rw [List.length_set,List.length_replicate] at hu
   rw [qDF]
   show _ ↔ u ∈ [0]
   rw [List.mem_singleton,List.length_replicate]
   by_cases q : 0 = u
   ·rw [if_pos ⟨q,hn⟩];simp [q]
   ·rw [if_neg (fun z => q z.1),List.getD_eq_getElem?_getD,List.getElem?_replicate,if_pos hu]
    constructor
    ·intro z;cases z
    ·intro z;exact absurd z.symm q
  obtain ⟨a1,a2,a3,a4⟩ := qaL (K := K) n ((List.replicate n false).set 0 true) 0 0 1 ((st0 n).step (0, -1,0,false)) [] (by simp) hseen rfl rfl
  have e : qI9 K [(0,0)] ((List.replicate n false).set 0 true) 1 = (dfs K ((List.replicate n false).set 0 true) 0 0 1).1 := by
   rw [qI9,qI9,List.append_nil]
  rw [e]
  exact ⟨⟨⟨rfl,by rw [if_neg (by decide)];exact ⟨hn,by simp [st0]⟩⟩,a1⟩,a2⟩
end Go.Vc

namespace Go.Vc
set_option autoImplicit false
structure Mono (x y : St) : Prop where
 L : ∃ l,y.L = x.L ++ l ∧ ∀ u ∈ l,(x.m : Int) ≤ y.I.getD u (-1)
 I : ∀ u ∈ x.L,y.I.getD u (-1) = x.I.getD u (-1)
 O : ∀ u ∈ x.L,x.O.getD u (-1) ≠ -1 → y.O.getD u (-1) = x.O.getD u (-1)
 O' : ∀ u ∈ x.L,x.O.getD u (-1) = -1 → y.O.getD u (-1) = -1 ∨ (x.m : Int) ≤ y.O.getD u (-1)
 m : x.m ≤ y.m
theorem Mono.refl (x : St) : Mono x x := ⟨⟨[],by simp,by simp⟩,fun _ _ => rfl,fun _ _ _ => rfl,fun _ _ h => .inl h,Nat.le_refl _⟩
theorem Mono.step {n : Nat} {x : St} (g : Good n x) {e : Ev} (h : qt6 n x e) : Mono x (x.step e) := by
 obtain ⟨h1,h2⟩ := h
 unfold St.step
 split
 ·rename_i hl
  rw [if_pos hl] at h2
  have hP : e.1 ∈ x.P := List.mem_of_getLast? h2
  rw [g.stk,List.mem_filter] at hP
  have hO : x.O.getD e.1 (-1) = -1 := by simpa using hP.2
  have hn := g.lt _ hP.1
  refine ⟨⟨[],by simp,by simp⟩,fun _ _ => rfl,?_,?_,Nat.le_succ _⟩ <;> dsimp only
  ·intro u hu hq
   rw [qDF]
   by_cases q : e.1 = u
   ·subst q;exact absurd hO hq
   ·rw [if_neg (fun z => q z.1)]
  ·intro u hu hq
   rw [qDF]
   by_cases q : e.1 = u
   ·rw [if_pos ⟨q,by rw [g.lO];exact hn⟩];right;omega
   ·rw [if_neg (fun z => q z.1)];exact .inl hq
 ·rename_i hl
  rw [if_neg hl] at h2
  have hI : ∀ u,(x.I.set e.1 (x.m : Int)).getD u (-1) = if e.1 = u then (x.m : Int) else x.I.getD u (-1) := by
   intro u
   rw [qDF]
   by_cases q : e.1 = u
   ·rw [if_pos q,if_pos ⟨q,by rw [g.lI];exact h2.1⟩]
   ·rw [if_neg q,if_neg (fun z => q z.1)]
  refine ⟨⟨[e.1],rfl,?_⟩,?_,fun _ _ _ => rfl,fun _ _ h => .inl h,Nat.le_succ _⟩ <;> dsimp only
  ·intro u hu
   simp at hu
   rw [hI,if_pos hu.symm];omega
  ·intro u hu
   rw [hI,if_neg (fun q : e.1 = u => h2.2 (q ▸ hu))]
theorem Mono.trans {x y z : St} (a : Mono x y) (b : Mono y z) : Mono x z := by
 obtain ⟨l,e1,h1⟩ := a.L
 obtain ⟨l',e2,h2⟩ := b.L
 have sub : ∀ u ∈ x.L,u ∈ y.L := fun u hu => by rw [e1];exact List.mem_append_left _ hu
 have hm := a.m
 refine ⟨⟨l ++ l',by rw [e2,e1,List.append_assoc],?_⟩,?_,?_,?_,Nat.le_trans a.m b.m⟩
 ·intro u hu
  rcases List.mem_append.1 hu with h | h
  ·rw [b.I u (by rw [e1];exact List.mem_append_right _ h)];exact h1 u h
  ·have := h2 u h;omega
 ·intro u hu;rw [b.I u (sub u hu),a.I u hu]
 ·intro u hu h
  have := a.O u hu h
  rw [b.O u (sub u hu) (by rw [this];exact h),this]
 ·intro u hu h
  rcases a.O' u hu h with q | q
  ·rcases b.O' u (sub u hu) q with r | r
   ·exact .inl r
   ·right;omega
  ·by_cases r : y.O.getD u (-1) = -1
   ·omega
   ·rw [b.O u (sub u hu) r];exact .inr q
theorem Mono.run {n : Nat} : ∀ {l : List Ev} {x : St},Good n x → qLB n x l → Mono x (x.run l) := by
 intro l
 induction l with
 | nil => intro x _ _;exact Mono.refl x
 | cons e l ih => intro x g h;exact (Mono.step g h.1).trans (ih (g.step h.1) h.2)
structure Done (n : Nat) (y : St) : Prop extends Good n y where
 P0 : y.P = []
theorem Done.o {n : Nat} {y : St} (g : Done n y) {u : Nat} (hu : u ∈ y.L) : y.O.getD u (-1) ≠ -1 := by
 intro h
 have : u ∈ y.P := by rw [g.stk,List.mem_filter];exact ⟨hu,by simpa using h⟩
 rw [g.P0] at this;cases this
def qdZ (D : Int) (S : Nat → Prop) (f : Nat → Int) : Prop := 0 ≤ D ∧ (∀ v,S v → f v ≤ D) ∧ (D = 0 ∨ ∃ v,S v ∧ D = f v)
theorem qdZ.uniq {D D' : Int} {S : Nat → Prop} {f : Nat → Int} (h : qdZ D S f) (h' : qdZ D' S f) (hf : ∀ v,S v → 0 ≤ f v) : D = D' := by
 obtain ⟨a0,a1,a2⟩ := h
 obtain ⟨b0,b1,b2⟩ := h'
 rcases a2 with rfl | ⟨v,hv,rfl⟩
 ·rcases b2 with rfl | ⟨w,hw,rfl⟩
  ·rfl
  ·have := a1 w hw;omega
 ·have := b1 v hv
  rcases b2 with rfl | ⟨w,hw,rfl⟩
  ·have := hf v hv;omega
  ·have := a1 w hw;omega
def qTB (K : Nat → List Int) (n : Nat) : St := (st0 n).run (qQM K n)
theorem qJQ (K : Nat → List Int) (n : Nat) : Done n (qTB K n) := ⟨(qkG n).run (qW5 K n).1,(qW5 K n).2⟩
theorem qwH : ∀ (l : List Ev) (x : St),(x.run l).m = x.m + l.length := by
 intro l
 induction l with
 | nil => intro x;rfl
 | cons e l ih =>
  intro x
  show ((x.step e).run l).m = _
  rw [ih]
  have : (x.step e).m = x.m + 1 := by unfold St.step;split <;> rfl
  rw [this,List.length_cons];omega
theorem qW6 {α : Type} (p : α → Bool) (l : List α) : l.length = (l.filter p).length + (l.filter fun u => !p u).length := by
 induction l with
 | nil => rfl
 | cons a l ih =>
  rw [List.filter_cons,List.filter_cons]
  cases p a <;> simp <;> omega
theorem qJS {n : Nat} : ∀ {l : List Nat},l.Nodup → (∀ u ∈ l,u < n) → l.length ≤ n := by
 induction n with
 | zero =>
  intro l _ h
  cases l with
  | nil => exact Nat.le_refl _
  | cons a l => exact absurd (h a List.mem_cons_self) (by omega)
 | succ n ih =>
  intro l hn h
  have h1 := ih (l := l.filter fun u => !(u == n)) (hn.filter _) (fun u hu => by
   rw [List.mem_filter] at hu
   have := h u hu.1
   have h2 : ¬ u = n := by simpa using hu.2
   omega)
  have h2 : l.length ≤ (l.filter fun u => !(u == n)).length + 1 := by
   have e := qW6 (fun u => u == n) l
   have h3 : (l.filter fun u => u == n).length ≤ 1 := by
    rw [← List.countP_eq_length_filter]
    exact List.nodup_iff_count.1 hn n
   omega
  omega
theorem qWQ (K : Nat → List Int) (n : Nat) : (qQM K n).length = 2 * (qTB K n).L.length ∧ (qTB K n).L.length ≤ n ∧ (qTB K n).m = (qQM K n).length := by
 have g := qJQ K n
 have h1 := qwH (qQM K n) (st0 n)
 have h1 : (qTB K n).m = 0 + (qQM K n).length := h1
 have h2 := g.cnt
 have h3 := g.P0
 rw [h3] at h2
 simp at h2
 exact ⟨by omega,qJS g.nod g.lt,by omega⟩
end Go.Vc

namespace Go.Vc
open Go.Proofs
set_option maxRecDepth 10000
set_option maxHeartbeats 4000000
def qAB (l : List qAE) (i : Nat) : List Int := (l.getD i qAC.dflt).2.2.2.2.2.2
def evs (l : List qAE) : List Ev := qQM (qAB l) l.length
def qg6 (e : Ev) : SV := .agg [.int .i64 e.1,.int .i64 e.2.1,.flt e.2.2.1,.bool e.2.2.2]
def frm (p : Nat × Nat) : Int × Int := ((p.1 : Int),(p.2 : Int))
def qEB (p : List (Nat × Nat)) : List (Int × Int) := (p.map frm).reverse
def qxA (l : List qAE) : List (Nat × Nat) → Nat
 | [] => 0
 | (i,j) :: _ => (qAB l i).length - j
def bigT (l : List qAE) : Nat := ((List.range l.length).map fun i => (qAB l i).length).sum + 2
instance oWalk (l : List qAE) : Fn BB 118 [.agg [.rd qAC l]] True (.fn 157 [.el (.sl qAC) [l] 0 0]) := by
 refine Fn.intro (N := 4) [0,1,2] [] Tryz.call118 Tryz.func118 rfl rfl (by kernel_rfl) (fun hpre => ?_)
 all_goals exact vcA
structure WI (l : List qAE) (p : List (Nat × Nat)) (s : List Bool) (m : Nat) : Prop where
 e : (evs l).drop m = qI9 (qAB l) p s m
 s : s.length = l.length
 pn : ∀ q ∈ p,q.1 < l.length
 mle : m ≤ (evs l).length
 m1 : 1 ≤ m
 pl : p.length ≤ m
theorem qdH {l : List qAE} (h : 0 < l.length) : evs l = (0, -1,0,false) :: qI9 (qAB l) [(0,0)] ((List.replicate l.length false).set 0 true) 1 := by
 unfold evs qQM;rw [if_neg (by omega)]
theorem qEC (q : Nat × Nat) (r : List (Nat × Nat)) : qEB (q :: r) = qEB r ++ [frm q] := by unfold qEB;rw [List.map_cons,List.reverse_cons]
theorem qCI (p : List (Nat × Nat)) : (qEB p).length = p.length := by unfold qEB;simp
theorem qX9 (q : Nat × Nat) (r : List (Nat × Nat)) (d : Int × Int) : (qEB (q :: r)).getD r.length d = frm q := by
 rw [qEC,List.getD_eq_getElem?_getD,List.getElem?_append_right (by rw [qCI];omega)]
 simp [qCI]
theorem qaY (l : List qAE) (i : Nat) : (List.getD l i qAC.dflt).2.2.2.2.2.2 = qAB l i := rfl
theorem qv9 (i j : Nat) (rest : List (Nat × Nat)) : (((qEB ((i,j) :: rest)).length : Int) - 1).toNat = rest.length := by rw [qCI,List.length_cons];omega
theorem topD (i j : Nat) (rest : List (Nat × Nat)) (d : Int × Int) : (qEB ((i,j) :: rest)).getD (((qEB ((i,j) :: rest)).length : Int) - 1).toNat d = ((i : Int),(j : Int)) := by
 rw [qv9];exact qX9 _ _ _
theorem setD (i j : Nat) (rest : List (Nat × Nat)) : (qEB ((i,j) :: rest)).set (((qEB ((i,j) :: rest)).length : Int) - 1).toNat ((i : Int),(j : Int) + 1) = qEB ((i,j + 1) :: rest) := by
 rw [qv9,qEC,qEC,List.set_append_right _ _ (by rw [qCI];omega),qCI]
 simp [frm]
theorem cutD (i j : Nat) (rest : List (Nat × Nat)) : (qEB ((i,j) :: rest)).take (((qEB ((i,j) :: rest)).length : Int) - 1).toNat = qEB rest := by
 rw [qv9,qEC,List.take_append_of_le_length (by rw [qCI];omega), ← qCI,List.take_length]
theorem appD (k : Int) (hk : 0 ≤ k) (rest : List (Nat × Nat)) : qEB rest ++ [(k,0)] = qEB ((k.toNat,0) :: rest) := by
 rw [qEC];unfold frm
 rw [show ((k.toNat : Nat) : Int) = k by omega];rfl
theorem drop_cons {α : Type} {l r : List α} {m : Nat} {a : α} (h : l.drop m = a :: r) : m < l.length ∧ (∀ d,l.getD m d = a) ∧ l.drop (m + 1) = r := by
 have hm : m < l.length := by
  rcases Nat.lt_or_ge m l.length with q | q
  ·exact q
  ·rw [List.drop_eq_nil_of_le q] at h;cases h
 rw [List.drop_eq_getElem_cons hm] at h
 injection h with h1 h2
 exact ⟨hm,fun d => by rw [List.getD_eq_getElem?_getD,List.getElem?_eq_getElem hm,h1];rfl,h2⟩
theorem qWE : ∀ (m : List Nat) (x : Nat),x ∈ m → x ≤ m.sum := by
 intro m
 induction m with
 | nil => intro x hx;cases hx
 | cons a m ih =>
  intro x hx
  rw [List.sum_cons]
  rcases List.mem_cons.1 hx with e | e
  ·omega
  ·have := ih x e;omega
theorem qwE {s : List Bool} {n : Nat} {k : Int} (hs : s.length = n) (h : (decide (k < 0) || decide (k ≥ (n : Int)) || s.getD k.toNat false) = true) : okK s k = false := by
 unfold okK
 by_cases h1 : k < 0
 ·rw [decide_eq_false (by omega : ¬ 0 ≤ k)];rfl
 ·by_cases h2 : k ≥ (n : Int)
  ·have : s.getD k.toNat true = true := by rw [List.getD_eq_getElem?_getD,List.getElem?_eq_none (by omega)];rfl
   rw [this];simp
  ·rw [decide_eq_false h1,decide_eq_false h2] at h
   have hl : k.toNat < s.length := by omega
   have h3 : s.getD k.toNat false = true := by simpa using h
   have : s.getD k.toNat true = true := by
    rw [List.getD_eq_getElem?_getD,List.getElem?_eq_getElem hl] at h3 ⊢;exact h3
   rw [this];simp
theorem quL {s : List Bool} {n : Nat} {k : Int} (hs : s.length = n) (h : (decide (k < 0) || decide (k ≥ (n : Int)) || s.getD k.toNat false) = false) : okK s k = true := by
 rw [Bool.or_eq_false_iff,Bool.or_eq_false_iff] at h
 have h1 := of_decide_eq_false h.1.1
 have h2 := of_decide_eq_false h.1.2
 have hl : k.toNat < s.length := by omega
 unfold okK
 rw [decide_eq_true (by omega : 0 ≤ k)]
 have h3 := h.2
 have : s.getD k.toNat true = false := by
  rw [List.getD_eq_getElem?_getD,List.getElem?_eq_getElem hl] at h3 ⊢;exact h3
 rw [this];rfl
theorem qeT (l : List qAE) (i : Nat) : (qAB l i).length + 2 ≤ bigT l := by
 unfold bigT
 rcases Nat.lt_or_ge i l.length with h | h
 ·have := qWE ((List.range l.length).map fun i => (qAB l i).length) (qAB l i).length (List.mem_map.2 ⟨i,List.mem_range.2 h,rfl⟩)
  omega
 ·have : qAB l i = [] := by unfold qAB;rw [List.getD_eq_getElem?_getD,List.getElem?_eq_none h];rfl
  rw [this];simp
theorem qW9 (l : List qAE) (p : List (Nat × Nat)) : qxA l p + 2 ≤ bigT l := by
 cases p with
 | nil => show 0 + 2 ≤ _;unfold bigT;omega
 | cons q r => obtain ⟨i,j⟩ := q;have := qeT l i;show (qAB l i).length - j + 2 ≤ _;omega
theorem qcD {l : List qAE} {a b x y : Nat} (h : a + 1 ≤ b) (hx : x + 2 ≤ bigT l) : a * bigT l + x < b * bigT l + y := by
 have : (a + 1) * bigT l ≤ b * bigT l := Nat.mul_le_mul_right _ h
 rw [Nat.add_mul] at this
 omega
instance oIt (l : List qAE) : It BB 157 [.el (.sl qAC) [l] 0 0] (l.length ≤ 45) (evs l).length (fun i => [qg6 ((evs l).getD i (0,0,0,false))]) := by
  refine It.intro (N := 118) [0,1,3,4,5,6,7,8,9,19,30,51,60,100,110] [(7,[0,1,0,0,0,1,3,3,3,3]),(12,[0,0,0,1,0,0,0,0,1,1,1,1,3])] 0 Tryz.call157 Tryz.func157 rfl rfl (by kernel_rfl) (fun hpre yl => ?_)
  repeat' ((conv => whnf);first|(with_reducible first|rfl|exact qAF|exact qAG)|exact True.intro|intro _|refine WA ?_ ?_|refine WF ?_|refine W1 rfl ?_ ?_|refine W2 rfl ?_ ?_|refine W3 rfl ?_ ?_|refine W4 ?_ ?_|refine W5 rfl ?_ ?_|refine W6 ?_ ?_|refine WN ?_|refine X1 (W1 rfl ?_ ?_)|refine X1 (W2 rfl ?_ ?_)|refine X2 (W7 rfl ?_ ?_)|refine X3 (W7 rfl ?_ ?_)|refine X4 (W7 rfl ?_ ?_)|refine X5 (W7 rfl ?_ ?_))
  all_goals (try (conv => whnf))
  all_goals (try simp only [List.getD_cons_zero] at *)
  all_goals (try first|exact obA|refine Ob.mk ?_)
  all_goals (try (have hz : l.length = 0 := by have h := ‹((l.length : Int) == 0) = true›;rw [beq_iff_eq] at h;omega))
  all_goals (try (have hz : 0 < l.length := by have h := ‹((l.length : Int) == 0) = false›;rw [beq_eq_false_iff_ne] at h;omega))
  all_goals (try (have he := qdH hz))
  all_goals (try (exfalso;have h := ‹(false || !true) = true›;cases h;done))
  all_goals (try (exfalso;have h := ‹(false || !false) = false›;cases h;done))
  · rw [he,List.length_cons];omega
  · rw [he];rfl
  · rw [he];rfl
  · rw [he];rfl
  · rw [he];rfl
  · rw [List.length_replicate];constructor <;> omega
  · rw [List.length_replicate];show 0 < _;omega
  have hE : (evs l).length ≤ 90 := by
    have := qWQ (qAB l) l.length
    show (qQM (qAB l) l.length).length ≤ 90
    omega
  refine LoopStop.mk (α := List (Nat × Nat) × List Bool × Nat) (fun a => [(3,.own 0),(4,.flt a.2.2),(5,.own 1)]) (fun a => [(GID,.gh (some a.2.2)),(0,.own .bool a.2.1),(1,.own qe0 (qEB a.1))]) 40
    (fun a => WI l a.1 a.2.1 a.2.2) (fun a => (qI9 (qAB l) a.1 a.2.1 a.2.2).length * bigT l + qxA l a.1) ([(0,0)],(List.replicate l.length false).set 0 true,1) ⟨by rw [he];rfl,by simp,(fun q hq => by simp at hq;subst hq;exact hz),(by show 1 ≤ _;rw [he,List.length_cons];omega),Nat.le_refl _,Nat.le_refl _⟩ ?_ (fun a ha => ?_)
  · repeat' ((conv => whnf);first|(with_reducible first|rfl|exact qAF|exact qAG)|exact True.intro|intro _|refine WA ?_ ?_|refine WF ?_|refine W1 rfl ?_ ?_|refine W2 rfl ?_ ?_|refine W3 rfl ?_ ?_|refine W4 ?_ ?_|refine W5 rfl ?_ ?_|refine W6 ?_ ?_|refine WN ?_|refine X1 (W1 rfl ?_ ?_)|refine X1 (W2 rfl ?_ ?_)|refine X2 (W7 rfl ?_ ?_)|refine X3 (W7 rfl ?_ ?_)|refine X4 (W7 rfl ?_ ?_)|refine X5 (W7 rfl ?_ ?_))
    all_goals (try (conv => whnf))
    all_goals (try first|exact obA|refine Ob.mk ?_)
    all_goals (try rfl)
    all_goals trace_state
  · obtain ⟨p,s,m⟩ := a
    dsimp only at ha ⊢
    cases p with
    | nil =>
      have hm : m = (evs l).length := by
        have h := congrArg List.length ha.e
        have h2 := ha.mle
        rw [List.length_drop] at h
        simp [qI9] at h
        omega
      repeat' ((conv => whnf);first|(with_reducible first|rfl|exact qAF|exact qAG)|exact True.intro|intro _|refine WA ?_ ?_|refine WF ?_|refine W1 rfl ?_ ?_|refine W2 rfl ?_ ?_|refine W3 rfl ?_ ?_|refine W4 ?_ ?_|refine W5 rfl ?_ ?_|refine W6 ?_ ?_|refine WN ?_|refine X1 (W1 rfl ?_ ?_)|refine X1 (W2 rfl ?_ ?_)|refine X2 (W7 rfl ?_ ?_)|refine X3 (W7 rfl ?_ ?_)|refine X4 (W7 rfl ?_ ?_)|refine X5 (W7 rfl ?_ ?_))
      all_goals (try (conv => whnf))
      all_goals (try first|exact obA|refine Ob.mk ?_)
      all_goals (try (exfalso;have h := of_decide_eq_true ‹decide (((qEB []).length : Int) > 0) = true›;revert h;decide))
      all_goals (first | exact hm | skip)
    | cons q rest =>
      obtain ⟨i,j⟩ := q
      have hin : i < l.length := ha.pn (i,j) List.mem_cons_self
      have hml := ha.mle
      have hm1 := ha.m1
      have hpl : rest.length + 1 ≤ m := ha.pl
      have hek := ha.e
      have hsl := ha.s
      repeat' ((conv => whnf);first|(with_reducible first|rfl|exact qAF|exact qAG)|exact True.intro|intro _|refine WA ?_ ?_|refine WF ?_|refine W1 rfl ?_ ?_|refine W2 rfl ?_ ?_|refine W3 rfl ?_ ?_|refine W4 ?_ ?_|refine W5 rfl ?_ ?_|refine W6 ?_ ?_|refine WN ?_|refine X1 (W1 rfl ?_ ?_)|refine X1 (W2 rfl ?_ ?_)|refine X2 (W7 rfl ?_ ?_)|refine X3 (W7 rfl ?_ ?_)|refine X4 (W7 rfl ?_ ?_)|refine X5 (W7 rfl ?_ ?_))
      all_goals (try (conv => whnf))
      all_goals (try first|exact obA|refine Ob.mk ?_)
      all_goals (try simp only [List.getD_cons_zero] at *)
      all_goals (try simp only [topD] at *)
      all_goals (try simp only [Int.toNat_natCast,qaY,setD,cutD] at *)
      all_goals (try (exfalso;have h := of_decide_eq_false ‹decide (((qEB ((i,j) :: rest)).length : Int) > 0) = false›;rw [qCI,List.length_cons] at h;omega))
      all_goals (try (exfalso;have h := ‹(!true) = true›;cases h;done))
      all_goals (try (exfalso;have h := ‹(!false) = false›;cases h;done))
      all_goals (try (have hj : ¬ j < (qAB l i).length := by have h := of_decide_eq_true ‹decide ((j : Int) ≥ ((qAB l i).length : Int)) = true›;omega))
      all_goals (try (have hj : j < (qAB l i).length := by have h := of_decide_eq_false ‹decide ((j : Int) ≥ ((qAB l i).length : Int)) = false›;omega))
      all_goals (try (rw [qTZ hj] at hek;obtain ⟨d1,d2,d3⟩ := drop_cons hek))
      · exact ⟨by omega,by omega⟩
      · exact d1
      · rw [d2]
      · rw [d2]
      · rw [d2]
      · rw [d2]
      · have hr := qW9 l rest
        refine Rnd.mk ⟨(rest,s,m + 1),⟨by rw [d3],hsl,fun q hq => ha.pn q (List.mem_cons_of_mem _ hq),(by show m + 1 ≤ _;omega),(by show 1 ≤ m + 1;omega),(by show rest.length ≤ m + 1;omega)⟩,?_,?_⟩
        · dsimp only
          rw [qTZ hj,List.length_cons]
          exact qcD (Nat.le_refl _) hr
        · repeat' ((conv => whnf);first|(with_reducible first|rfl|exact qAF|exact qAG)|exact True.intro|intro _|refine WA ?_ ?_|refine WF ?_|refine W1 rfl ?_ ?_|refine W2 rfl ?_ ?_|refine W3 rfl ?_ ?_|refine W4 ?_ ?_|refine W5 rfl ?_ ?_|refine W6 ?_ ?_|refine WN ?_|refine X1 (W1 rfl ?_ ?_)|refine X1 (W2 rfl ?_ ?_)|refine X2 (W7 rfl ?_ ?_)|refine X3 (W7 rfl ?_ ?_)|refine X4 (W7 rfl ?_ ?_)|refine X5 (W7 rfl ?_ ?_))
          all_goals (try (conv => whnf))
          all_goals (try first|exact obA|refine Ob.mk ?_)
          all_goals (try rfl)
          all_goals trace_state
      · have hj : j < (qAB l i).length := by
          have h := of_decide_eq_false ‹decide ((j : Int) ≥ ((qAB l i).length : Int)) = false›
          omega
        exact ⟨by omega,by show (j : Int) < ((qAB l i).length : Int);omega⟩
      · have hk : (qAB l i).length ≤ 9223372036854775807 := by assumption
        constructor <;> omega
      · have h : (decide ((qAB l i).getD j 0 < 0) || decide ((qAB l i).getD j 0 ≥ (l.length : Int))) = false := by assumption
        rw [Bool.or_eq_false_iff] at h
        have h1 := of_decide_eq_false h.1
        have h2 := of_decide_eq_false h.2
        show 0 ≤ (qAB l i).getD j 0 ∧ (qAB l i).getD j 0 < (s.length : Int)
        omega
      · have h : (decide ((qAB l i).getD j 0 < 0) || decide ((qAB l i).getD j 0 ≥ (l.length : Int))) = false := by assumption
        rw [Bool.or_eq_false_iff] at h
        have h1 := of_decide_eq_false h.1
        have h2 := of_decide_eq_false h.2
        show ((qAB l i).getD j 0).toNat < s.length
        omega
      · have hc : (decide ((qAB l i).getD j 0 < 0) || decide ((qAB l i).getD j 0 ≥ (l.length : Int)) || s.getD ((qAB l i).getD j 0).toNat false) = true := by assumption
        have hk := qwE hsl hc
        rw [qTS hj hk] at hek
        refine Rnd.mk ⟨((i,j + 1) :: rest,s,m),⟨hek,hsl,(fun q hq => (by rcases List.mem_cons.1 hq with e | e;(subst e;exact hin);exact ha.pn q (List.mem_cons_of_mem _ e))),hml,hm1,ha.pl⟩,?_,?_⟩
        · dsimp only
          rw [qTS hj hk]
          show _ + ((qAB l i).length - (j + 1)) < _ + ((qAB l i).length - j)
          omega
        · all_goals exact vcA
      all_goals (try (have hc : (decide ((qAB l i).getD j 0 < 0) || decide ((qAB l i).getD j 0 ≥ (l.length : Int)) || s.getD ((qAB l i).getD j 0).toNat false) = false := by assumption))
      all_goals (have hk := quL hsl hc)
      all_goals (have hks := qBH hk)
      all_goals (rw [qWF hj hk] at hek;obtain ⟨d1,d2,d3⟩ := drop_cons hek)
      · exact ⟨hks.1,by show (qAB l i).getD j 0 < (s.length : Int);omega⟩
      · exact hks.2.1
      · exact d1
      · rw [d2];show (qAB l i).getD j 0 = _;dsimp only;omega
      · rw [d2]
      · rw [d2]
      · rw [d2]
      · simp only [cast_eq]
        have := qCI ((i,j + 1) :: rest)
        rw [this]
        simp
        omega
      · refine Rnd.mk ⟨((((qAB l i).getD j 0).toNat,0) :: (i,j + 1) :: rest,s.set ((qAB l i).getD j 0).toNat true,m + 1),⟨d3,by rw [List.length_set];exact hsl,(fun q hq => ?_),(by show m + 1 ≤ _;omega),(by show 1 ≤ m + 1;omega),(by show rest.length + 1 + 1 ≤ m + 1;omega)⟩,?_,?_⟩
        · rcases List.mem_cons.1 hq with e | e
          · subst e;show _ < l.length;have := hks.2.1;omega
          · rcases List.mem_cons.1 e with e | e
            · subst e;exact hin
            · exact ha.pn q (List.mem_cons_of_mem _ e)
        · dsimp only
          rw [qWF hj hk,List.length_cons]
          exact qcD (Nat.le_refl _) (qW9 l _)
        · repeat' ((conv => whnf);first|(with_reducible first|rfl|exact qAF|exact qAG)|exact True.intro|intro _|refine WA ?_ ?_|refine WF ?_|refine W1 rfl ?_ ?_|refine W2 rfl ?_ ?_|refine W3 rfl ?_ ?_|refine W4 ?_ ?_|refine W5 rfl ?_ ?_|refine W6 ?_ ?_|refine WN ?_|refine X1 (W1 rfl ?_ ?_)|refine X1 (W2 rfl ?_ ?_)|refine X2 (W7 rfl ?_ ?_)|refine X3 (W7 rfl ?_ ?_)|refine X4 (W7 rfl ?_ ?_)|refine X5 (W7 rfl ?_ ?_))
          all_goals (try (conv => whnf))
          all_goals (try first|exact obA|refine Ob.mk ?_)
          all_goals (try rfl)
          · show Chunk.own qe0 _ = Chunk.own qe0 _
            rw [← appD _ hks.1]
            rfl
  · have : evs l = [] := by unfold evs qQM;rw [if_pos hz]
    rw [this];rfl
end Go.Vc

namespace Go.Vc
open Go.Proofs
set_option maxRecDepth 10000
set_option maxHeartbeats 4000000
def fin (l : List qAE) : St := qTB (qAB l) l.length
def qBK (l : List Nat) : List Int := List.map (fun u : Nat => (u : Int)) l
theorem qNU (l : List Nat) (v : Nat) : qBK (l ++ [v]) = qBK l ++ [(v : Int)] := by unfold qBK;rw [List.map_append];rfl
def stA (l : List qAE) (i : Nat) : St := (st0 l.length).run ((evs l).take i)
theorem qeN (l : List qAE) : stA l (evs l).length = fin l := by unfold stA fin qTB evs;rw [List.take_length]
theorem qbE (l : List qAE) (i : Nat) (h : i < (evs l).length) : stA l (i + 1) = (stA l i).step ((evs l).getD i (0,0,0,false)) := by
 unfold stA
 rw [List.take_succ_eq_append_getElem h,qH0]
 have : (evs l).getD i (0,0,0,false) = (evs l)[i] := by simp [List.getD,List.getElem?_eq_getElem h]
 rw [this];rfl
theorem qVG {n : Nat} : ∀ {l : List Ev} {x : St} (i : Nat),qLB n x l → qLB n x (l.take i) := by
 intro l
 induction l with
 | nil => intro x i h;simp;exact h
 | cons e l ih =>
  intro x i h
  cases i with
  | zero => exact trivial
  | succ i => exact ⟨h.1,ih i h.2⟩
theorem qaD (l : List qAE) (i : Nat) : Good l.length (stA l i) := (qkG _).run (qVG i (qW5 (qAB l) l.length).1)
theorem qbR (x : St) (e : Ev) : (x.step e).L = if e.2.2.2 = true then x.L else x.L ++ [e.1] := by unfold St.step;split <;> rfl
instance oList (l : List qAE) : Fn BB 64 [.agg [.rd qAC l]] (l.length ≤ 45) (.rd qAH (qBK (fin l).L)) := by
 refine Fn.intro (N := 17) [0,1,2,3,4,6,7,10] [] Tryz.call64 Tryz.func64 rfl rfl (by kernel_rfl) (fun hpre => ?_)
 repeat' ((conv => whnf);first|(with_reducible first|rfl|exact qAF|exact qAG)|exact True.intro|intro _|refine WA ?_ ?_|refine WF ?_|refine W1 rfl ?_ ?_|refine W2 rfl ?_ ?_|refine W3 rfl ?_ ?_|refine W4 ?_ ?_|refine W5 rfl ?_ ?_|refine W6 ?_ ?_|refine WN ?_|refine X1 (W1 rfl ?_ ?_)|refine X1 (W2 rfl ?_ ?_)|refine X2 (W7 rfl ?_ ?_)|refine X3 (W7 rfl ?_ ?_)|refine X4 (W7 rfl ?_ ?_)|refine X5 (W7 rfl ?_ ?_))
 all_goals (try (conv => whnf))
 all_goals (try first|exact obA|refine Ob.mk ?_)
 have hEl : (evs l).length ≤ 90 := by
  have := qWQ (qAB l) l.length
  show (qQM (qAB l) l.length).length ≤ 90
  omega
 have hlen : ∀ i,(stA l i).L.length ≤ 45 := fun i => by
  have g := qaD l i
  have := qJS g.nod g.lt
  omega
 refine RangeStop.mk (α := Nat) ⟨hpre⟩ rfl (fun i => [(1,.box [.own 20]),(20,.own qAH (qBK (stA l i).L))]) 30 (fun i k => k = i) 0 rfl ?_ (fun i k hC hi => ?_) (fun k hC => ?_)
 ·all_goals exact vcA
 ·subst hC
  have hs := qbE l k hi
  have hl := hlen k
  generalize he : (evs l).getD k (0,0,0,false) = e at *
  obtain ⟨v,up,c,lf⟩ := e
  cases lf
  ·repeat' ((conv => whnf);first|(with_reducible first|rfl|exact qAF|exact qAG)|exact True.intro|intro _|refine WA ?_ ?_|refine WF ?_|refine W1 rfl ?_ ?_|refine W2 rfl ?_ ?_|refine W3 rfl ?_ ?_|refine W4 ?_ ?_|refine W5 rfl ?_ ?_|refine W6 ?_ ?_|refine WN ?_|refine X1 (W1 rfl ?_ ?_)|refine X1 (W2 rfl ?_ ?_)|refine X2 (W7 rfl ?_ ?_)|refine X3 (W7 rfl ?_ ?_)|refine X4 (W7 rfl ?_ ?_)|refine X5 (W7 rfl ?_ ?_))
   all_goals (try (conv => whnf))
   all_goals (try first|exact obA|refine Ob.mk ?_)
   all_goals (try (exfalso;have h := ‹(!false) = false›;cases h;done))
   ·simp only [cast_eq];unfold qBK;simp;omega
   ·refine Rnd.mk ⟨k + 1,rfl,?_⟩
    repeat' ((conv => whnf);first|(with_reducible first|rfl|exact qAF|exact qAG)|exact True.intro|intro _|refine WA ?_ ?_|refine WF ?_|refine W1 rfl ?_ ?_|refine W2 rfl ?_ ?_|refine W3 rfl ?_ ?_|refine W4 ?_ ?_|refine W5 rfl ?_ ?_|refine W6 ?_ ?_|refine WN ?_|refine X1 (W1 rfl ?_ ?_)|refine X1 (W2 rfl ?_ ?_)|refine X2 (W7 rfl ?_ ?_)|refine X3 (W7 rfl ?_ ?_)|refine X4 (W7 rfl ?_ ?_)|refine X5 (W7 rfl ?_ ?_))
    all_goals (try (conv => whnf))
    all_goals (try first|exact obA|refine Ob.mk ?_)
    rw [hs,qbR,if_neg (by simp),qNU]
    try simp only [cast_eq]
  ·repeat' ((conv => whnf);first|(with_reducible first|rfl|exact qAF|exact qAG)|exact True.intro|intro _|refine WA ?_ ?_|refine WF ?_|refine W1 rfl ?_ ?_|refine W2 rfl ?_ ?_|refine W3 rfl ?_ ?_|refine W4 ?_ ?_|refine W5 rfl ?_ ?_|refine W6 ?_ ?_|refine WN ?_|refine X1 (W1 rfl ?_ ?_)|refine X1 (W2 rfl ?_ ?_)|refine X2 (W7 rfl ?_ ?_)|refine X3 (W7 rfl ?_ ?_)|refine X4 (W7 rfl ?_ ?_)|refine X5 (W7 rfl ?_ ?_))
   all_goals (try (conv => whnf))
   all_goals (try first|exact obA|refine Ob.mk ?_)
   all_goals (try (exfalso;have h := ‹(!true) = true›;cases h;done))
   refine Rnd.mk ⟨k + 1,rfl,?_⟩
   repeat' ((conv => whnf);first|(with_reducible first|rfl|exact qAF|exact qAG)|exact True.intro|intro _|refine WA ?_ ?_|refine WF ?_|refine W1 rfl ?_ ?_|refine W2 rfl ?_ ?_|refine W3 rfl ?_ ?_|refine W4 ?_ ?_|refine W5 rfl ?_ ?_|refine W6 ?_ ?_|refine WN ?_|refine X1 (W1 rfl ?_ ?_)|refine X1 (W2 rfl ?_ ?_)|refine X2 (W7 rfl ?_ ?_)|refine X3 (W7 rfl ?_ ?_)|refine X4 (W7 rfl ?_ ?_)|refine X5 (W7 rfl ?_ ?_))
   all_goals (try (conv => whnf))
   all_goals (try first|exact obA|refine Ob.mk ?_)
   rw [hs,qbR,if_pos rfl]
 ·subst hC
  rw [qeN]
  all_goals exact vcA
def flat (x : St) : List (Int × Int) := (List.range x.I.length).map fun u => (x.I.getD u (-1),x.O.getD u (-1))
theorem qaM {α : Type} {a b : α} (i n : Nat) (h : i < n) : (List.replicate i a ++ List.replicate (n - i) b).set i a = List.replicate (i + 1) a ++ List.replicate (n - (i + 1)) b := by
 rw [List.set_append_right _ _ (by simp),List.length_replicate,Nat.sub_self]
 obtain ⟨m,hm⟩ : ∃ m,n - i = m + 1 := ⟨n - i - 1,by omega⟩
 rw [hm,List.replicate_succ,List.set_cons_zero,show n - (i + 1) = m by omega,List.replicate_succ']
 simp
end Go.Vc

namespace Go.Vc
set_option autoImplicit false
def sI (I : List Int) : List Bool := I.map fun v => decide (0 ≤ v)
theorem qG4 (I : List Int) (k m : Nat) : sI (I.set k (m : Int)) = (sI I).set k true := by
 unfold sI;rw [List.map_set,decide_eq_true (by omega : (0 : Int) ≤ (m : Int))]
theorem qkT (n : Nat) : sI (List.replicate n (-1)) = List.replicate n false := by
 unfold sI;rw [List.map_replicate];rfl
theorem qcS (I : List Int) (k : Nat) (h : k < I.length) : (sI I).getD k true = decide (0 ≤ I.getD k 0) := by
 unfold sI;simp [List.getD,h]
def dR (K : Nat → List Int) (x : St) (i j : Nat) : St := x.run (dfs K (sI x.I) i j x.m).1
variable {K : Nat → List Int}
theorem qMB (x : St) (e : Ev) (l : List Ev) : x.run (e :: l) = (x.step e).run l := rfl
theorem qcF : ∀ (s : List Bool) (i j c : Nat) (x : St),sI x.I = s → x.m = c →
  sI (x.run (dfs K s i j c).1).I = (dfs K s i j c).2.1 ∧ (x.run (dfs K s i j c).1).m = (dfs K s i j c).2.2 := by
 refine qGI (K := K) ?_ ?_ ?_
 ·intro s i j c h x hs hm
  rw [qCZ h]
  exact ⟨hs,by show x.m + 1 = c + 1;rw [hm]⟩
 ·intro s i j c h hk ih x hs hm
  rw [qC0 h hk]
  exact ih x hs hm
 ·intro s i j c h hk i1 i2 x hs hm
  rw [qE8 h hk]
  dsimp only
  rw [qMB,qH0]
  have a := i1 (x.step (((K i).getD j 0).toNat,(i : Int),c,false)) (by show sI (x.I.set _ (x.m : Int)) = _;rw [qG4,hs]) (by show x.m + 1 = c + 1;rw [hm])
  exact i2 _ a.1 a.2
theorem qV3 {x : St} {i j : Nat} (h : ¬ j < (K i).length) : dR K x i j = x.step (i,0,x.m,true) := by
 unfold dR;rw [qCZ h];rfl
theorem qWS {x : St} {i j : Nat} (h : j < (K i).length) (hk : okK (sI x.I) ((K i).getD j 0) = false) : dR K x i j = dR K x i (j + 1) := by
 unfold dR;rw [qC0 h hk]
theorem qd4 {x : St} {i j : Nat} (h : j < (K i).length) (hk : okK (sI x.I) ((K i).getD j 0) = true) :
    dR K x i j = dR K (dR K (x.step (((K i).getD j 0).toNat,(i : Int),x.m,false)) ((K i).getD j 0).toNat 0) i (j + 1) := by
  have hI : sI (x.step (((K i).getD j 0).toNat,(i : Int),x.m,false)).I = (sI x.I).set ((K i).getD j 0).toNat true := qG4 ..
  have hm : (x.step (((K i).getD j 0).toNat,(i : Int),x.m,false)).m = x.m + 1 := rfl
  have a := qcF (K := K) _ ((K i).getD j 0).toNat 0 _ _ hI hm
  have e1 : dR K (x.step (((K i).getD j 0).toNat,(i : Int),x.m,false)) ((K i).getD j 0).toNat 0 =
      (x.step (((K i).getD j 0).toNat,(i : Int),x.m,false)).run (dfs K ((sI x.I).set ((K i).getD j 0).toNat true) ((K i).getD j 0).toNat 0 (x.m + 1)).1 := by
    unfold dR;rw [hI,hm]
  rw [e1]
  generalize hy : (x.step (((K i).getD j 0).toNat,(i : Int),x.m,false)).run (dfs K ((sI x.I).set ((K i).getD j 0).toNat true) ((K i).getD j 0).toNat 0 (x.m + 1)).1 = y at *
  unfold dR
  rw [a.1,a.2,qE8 h hk]
  dsimp only
  rw [qMB,qH0,hy]
theorem qg0 {P : St → Nat → Nat → Prop} (he : ∀ x i j,¬ j < (K i).length → P x i j) (hb : ∀ x i j,j < (K i).length → okK (sI x.I) ((K i).getD j 0) = false → P x i (j + 1) → P x i j)
  (ho : ∀ x i j,j < (K i).length → okK (sI x.I) ((K i).getD j 0) = true → P (x.step (((K i).getD j 0).toNat,(i : Int),x.m,false)) ((K i).getD j 0).toNat 0 →
   P (dR K (x.step (((K i).getD j 0).toNat,(i : Int),x.m,false)) ((K i).getD j 0).toNat 0) i (j + 1) → P x i j) : ∀ x i j,P x i j := by
 have main : ∀ (s : List Bool) (i j c : Nat) (x : St),sI x.I = s → x.m = c → P x i j := by
  refine qGI (K := K) ?_ ?_ ?_
  ·intro s i j c h x hs hm;exact he x i j h
  ·intro s i j c h hk ih x hs hm;subst hs;exact hb x i j h hk (ih x rfl hm)
  ·intro s i j c h hk i1 i2 x hs hm
   subst hs;subst hm
   have hI : sI (x.step (((K i).getD j 0).toNat,(i : Int),x.m,false)).I = (sI x.I).set ((K i).getD j 0).toNat true := qG4 ..
   have a := qcF (K := K) _ ((K i).getD j 0).toNat 0 (x.m + 1) (x.step (((K i).getD j 0).toNat,(i : Int),x.m,false)) hI rfl
   refine ho x i j h hk (i1 _ hI rfl) (i2 _ ?_ ?_)
   ·unfold dR;rw [hI];exact a.1
   ·unfold dR;rw [hI];exact a.2
 exact fun x i j => main _ i j _ x rfl rfl
theorem qcH : ∀ (x : St) (i j : Nat),(dR K x i j).m + 2 * unseen (sI (dR K x i j).I) ≤ x.m + 2 * unseen (sI x.I) + 1 ∧ (dR K x i j).I.length = x.I.length ∧ (dR K x i j).O.length = x.O.length ∧
  (dR K x i j).L.length + x.m ≤ x.L.length + (dR K x i j).m ∧ unseen (sI (dR K x i j).I) ≤ unseen (sI x.I) := by
 refine qg0 (K := K) ?_ ?_ ?_
 ·intro x i j h
  rw [qV3 h]
  refine ⟨?_,rfl,List.length_set ..,?_,Nat.le_refl _⟩
  ·show x.m + 1 + _ ≤ _;exact Nat.le_of_eq (by show x.m + 1 + 2 * unseen (sI x.I) = _;omega)
  ·show x.L.length + x.m ≤ x.L.length + (x.m + 1);omega
 ·intro x i j h hk ih
  rw [qWS h hk];exact ih
 ·intro x i j h hk i1 i2
  rw [qd4 h hk]
  have hI : sI (x.step (((K i).getD j 0).toNat,(i : Int),x.m,false)).I = (sI x.I).set ((K i).getD j 0).toNat true := qG4 ..
  have hu := qA8 (qBH hk).2.2
  have hm : (x.step (((K i).getD j 0).toNat,(i : Int),x.m,false)).m = x.m + 1 := rfl
  have hL : (x.step (((K i).getD j 0).toNat,(i : Int),x.m,false)).L.length = x.L.length + 1 := by
   show (x.L ++ [_]).length = _;simp
  have hIl : (x.step (((K i).getD j 0).toNat,(i : Int),x.m,false)).I.length = x.I.length := List.length_set ..
  have hOl : (x.step (((K i).getD j 0).toNat,(i : Int),x.m,false)).O.length = x.O.length := rfl
  rw [hI,hm,hL,hIl,hOl] at i1
  exact ⟨by omega,by omega,by omega,by omega,by omega⟩
def StE (x y : St) : Prop := x.L = y.L ∧ x.I = y.I ∧ x.O = y.O ∧ x.m = y.m
theorem StE.step {x y : St} (h : StE x y) {e e' : Ev} (h1 : e.1 = e'.1) (h2 : e.2.2.2 = e'.2.2.2) : StE (x.step e) (y.step e') := by
 obtain ⟨a,b,c,d⟩ := h
 unfold St.step
 rw [← h2]
 split
 ·exact ⟨a,b,by dsimp only;rw [c,d,h1],by dsimp only;rw [d]⟩
 ·exact ⟨by dsimp only;rw [a,h1],by dsimp only;rw [b,d,h1],c,by dsimp only;rw [d]⟩
theorem StE.run : ∀ {l : List Ev} {x y : St},StE x y → StE (x.run l) (y.run l) := by
 intro l
 induction l with
 | nil => intro x y h;exact h
 | cons e l ih => intro x y h;exact ih (h.step rfl rfl)
theorem StE.dR {x y : St} (h : StE x y) (i j : Nat) : StE (dR K x i j) (dR K y i j) := by
 unfold Go.Vc.dR
 rw [← h.2.1, ← h.2.2.2]
 exact h.run
def wkS (K : Nat → List Int) (L : List Nat) (I O : List Int) (i m : Nat) : St := dR K (({ L := L,P := [],I := I,O := O,m := m } : St).step (i,0,m,false)) i 0
theorem qhU (K : Nat → List Int) (n : Nat) (h : 0 < n) : StE (qTB K n) (wkS K [] (List.replicate n (-1)) (List.replicate n (-1)) 0 0) := by
 have e : qTB K n = dR K ((st0 n).step (0, -1,0,false)) 0 0 := by
  unfold qTB qQM dR
  rw [if_neg (by omega)]
  have e2 : sI ((st0 n).step (0, -1,0,false)).I = (List.replicate n false).set 0 true := by
   show sI ((List.replicate n (-1)).set 0 ((0 : Nat) : Int)) = _
   rw [qG4,qkT]
  have e3 : ((st0 n).step (0, -1,0,false)).m = 1 := rfl
  rw [e2,e3,qMB,qI9,qI9,List.append_nil]
 rw [e]
 unfold wkS
 exact (StE.step (x := st0 n) ⟨rfl,rfl,rfl,rfl⟩ rfl rfl).dR 0 0
end Go.Vc

namespace Go.Vc
open Go.Proofs
set_option maxRecDepth 10000
set_option maxHeartbeats 4000000
def qfF (t : List qAE) (L : List Nat) (I O : List Int) (k : Int) (m : Nat) : Prop :=
 t.length ≤ 45 ∧ I.length = t.length ∧ O.length = t.length ∧ (0 ≤ k ∧ k < t.length) ∧ m + 2 * unseen (sI (I.set k.toNat (m : Int))) + 2 ≤ 200 ∧ L.length ≤ m
theorem qUJ {I : List Int} {n : Nat} (hI : I.length = n) (k : Int) : (decide (k ≥ 0) && decide (k < (n : Int)) && decide (I.getD k.toNat 0 < 0)) = okK (sI I) k := by
  unfold okK
  by_cases h1 : k < 0
  · rw [decide_eq_false (by omega : ¬ k ≥ 0)];rfl
  · rw [decide_eq_true (by omega : k ≥ 0)]
    by_cases h2 : k < (n : Int)
    · rw [decide_eq_true h2,qcS I k.toNat (by omega)]
      by_cases h3 : I.getD k.toNat 0 < 0
      · rw [decide_eq_true h3,decide_eq_false (by omega : ¬ 0 ≤ I.getD k.toNat 0)];rfl
      · rw [decide_eq_false h3,decide_eq_true (by omega : 0 ≤ I.getD k.toNat 0)];rfl
    · have : (sI I).getD k.toNat true = true := by
        rw [List.getD_eq_getElem?_getD,List.getElem?_eq_none (by unfold sI;rw [List.length_map];omega)];rfl
      rw [decide_eq_false h2,this];rfl
theorem qjI (N : Nat) : ∀ (t : List qAE) (L : List Nat) (I O : List Int) (k : Int) (m : Nat),
  FnM BB 117 [.agg [.rd qAC t],.int .i64 k,.own 0,.own 1,.own 2,.int .i64 m] [(0,.own qAH (qBK L)),(1,.ow qAH I),(2,.ow qAH O)]
   (qfF t L I O k m ∧ unseen (sI (I.set k.toNat (m : Int))) < N)
   (.tup [.own 0,.int .i64 ((wkS (qAB t) L I O k.toNat m).m : Int)]) [(0,.own qAH (qBK (wkS (qAB t) L I O k.toNat m).L)),(1,.ow qAH (wkS (qAB t) L I O k.toNat m).I),(2,.ow qAH (wkS (qAB t) L I O k.toNat m).O)] := by
 induction N with
 | zero => intro t L I O k m;exact ⟨Tryz.call117,fun h => absurd h.2 (Nat.not_lt_zero _)⟩
 | succ N ih =>
  intro t L I O k m
  refine FnM.intro (N := 79) [0,1,2,3,4,5,6,12,13,14,15,34,61] [] 3 Tryz.call117 Tryz.func117 rfl rfl (by kernel_rfl) (fun hpre => ?_)
  repeat' ((conv => whnf);first|(with_reducible first|rfl|exact qAF|exact qAG)|exact True.intro|intro _|refine WA ?_ ?_|refine WF ?_|refine W1 rfl ?_ ?_|refine W2 rfl ?_ ?_|refine W3 rfl ?_ ?_|refine W4 ?_ ?_|refine W5 rfl ?_ ?_|refine W6 ?_ ?_|refine WN ?_|refine X1 (W1 rfl ?_ ?_)|refine X1 (W2 rfl ?_ ?_)|refine X2 (W7 rfl ?_ ?_)|refine X3 (W7 rfl ?_ ?_)|refine X4 (W7 rfl ?_ ?_)|refine X5 (W7 rfl ?_ ?_))
  all_goals (try (conv => whnf))
  all_goals (try first|exact obA|refine Ob.mk ?_)
  all_goals (obtain ⟨⟨ht,hIl,hOl,hk,hm,hL⟩,hN⟩ := hpre)
  ·have : (qBK L).length = L.length := by unfold qBK;simp
   rw [this,List.length_singleton]
   simp only [bytes3,qWY]
   omega
  ·omega
  ·omega
  ·constructor <;> omega
  generalize hx0 : (({ L := L,P := [],I := I,O := O,m := m } : St).step (k.toNat,0,m,false)) = x0
  have hxI : x0.I = I.set k.toNat (m : Int) := by rw [← hx0];rfl
  have hxL : x0.L = L ++ [k.toNat] := by rw [← hx0];rfl
  have hxO : x0.O = O := by rw [← hx0];rfl
  have hxm : x0.m = m + 1 := by rw [← hx0];rfl
  have hwk : wkS (qAB t) L I O k.toNat m = dR (qAB t) x0 k.toNat 0 := by unfold wkS;rw [hx0]
  rw [hwk]
  refine LoopStop.mk (α := St × Nat) (fun a => [(5,.int .i64 a.1.m),(14,.int .i64 a.2)]) (fun a => [(0,.own qAH (qBK a.1.L)),(1,.ow qAH a.1.I),(2,.ow qAH a.1.O)]) 60
   (fun a => dR (qAB t) a.1 k.toNat a.2 = dR (qAB t) x0 k.toNat 0 ∧ a.1.I.length = t.length ∧ a.1.O.length = t.length ∧ a.1.m + 2 * unseen (sI a.1.I) + 1 ≤ 200 ∧ a.1.L.length ≤ a.1.m ∧ unseen (sI a.1.I) ≤ N ∧ a.2 ≤ (qAB t k.toNat).length)
   (fun a => (qAB t k.toNat).length - a.2) (x0,0) ⟨rfl,by rw [hxI,List.length_set];exact hIl,by rw [hxO];exact hOl,by rw [hxI,hxm];omega,by rw [hxL,hxm,List.length_append,List.length_singleton];omega,by rw [hxI];omega,Nat.zero_le _⟩ ?_ (fun a ha => ?_)
  ·repeat' ((conv => whnf);first|(with_reducible first|rfl|exact qAF|exact qAG)|exact True.intro|intro _|refine WA ?_ ?_|refine WF ?_|refine W1 rfl ?_ ?_|refine W2 rfl ?_ ?_|refine W3 rfl ?_ ?_|refine W4 ?_ ?_|refine W5 rfl ?_ ?_|refine W6 ?_ ?_|refine WN ?_|refine X1 (W1 rfl ?_ ?_)|refine X1 (W2 rfl ?_ ?_)|refine X2 (W7 rfl ?_ ?_)|refine X3 (W7 rfl ?_ ?_)|refine X4 (W7 rfl ?_ ?_)|refine X5 (W7 rfl ?_ ?_))
   all_goals (try (conv => whnf))
   all_goals (try first|exact obA|refine Ob.mk ?_)
   ·show (m : Int) + 1 = (x0.m : Int);rw [hxm];omega
   ·show Chunk.own qAH _ = Chunk.own qAH (qBK x0.L)
    rw [hxL,qNU,Int.toNat_of_nonneg hk.1]
   ·show Chunk.ow qAH _ = Chunk.ow qAH x0.I
    rw [hxI]
   ·show Chunk.ow qAH _ = Chunk.ow qAH x0.O
    rw [hxO]
  ·obtain ⟨x,j⟩ := a
   dsimp only at ha ⊢
   obtain ⟨hD,hI2,hO2,hm2,hL2,hu2,hj2⟩ := ha
   repeat' ((conv => whnf);first|(with_reducible first|rfl|exact qAF|exact qAG)|exact True.intro|intro _|refine WA ?_ ?_|refine WF ?_|refine W1 rfl ?_ ?_|refine W2 rfl ?_ ?_|refine W3 rfl ?_ ?_|refine W4 ?_ ?_|refine W5 rfl ?_ ?_|refine W6 ?_ ?_|refine WN ?_|refine X1 (W1 rfl ?_ ?_)|refine X1 (W2 rfl ?_ ?_)|refine X2 (W7 rfl ?_ ?_)|refine X3 (W7 rfl ?_ ?_)|refine X4 (W7 rfl ?_ ?_)|refine X5 (W7 rfl ?_ ?_))
   all_goals (try (conv => whnf))
   all_goals (try first|exact obA|refine Ob.mk ?_)
   all_goals (try simp only [Int.toNat_natCast] at *)
   ·rename_i h1 h2 h3
    have hc : okK (sI x.I) ((qAB t k.toNat).getD j 0) = true := by rw [← qUJ hI2];exact h3
    have hks := qBH hc
    have hls : (sI x.I).length = t.length := by unfold sI;rw [List.length_map];exact hI2
    have hu := qA8 hks.2.2
    rw [← qG4 x.I ((qAB t k.toNat).getD j 0).toNat x.m] at hu
    show qfF t x.L x.I x.O ((qAB t k.toNat).getD j 0) x.m ∧ unseen (sI (x.I.set ((qAB t k.toNat).getD j 0).toNat (x.m : Int))) < N
    exact ⟨⟨ht,hI2,hO2,⟨hks.1,by omega⟩,by omega,hL2⟩,by omega⟩
   ·rename_i h1 h2 h3
    have hj : j < (qAB t k.toNat).length := by have h := of_decide_eq_true h2;exact Int.ofNat_lt.mp h
    have hc : okK (sI x.I) ((qAB t k.toNat).getD j 0) = true := by rw [← qUJ hI2];exact h3
    rw [qd4 hj hc] at hD
    have hks := qBH hc
    have hu := qA8 hks.2.2
    rw [← qG4 x.I ((qAB t k.toNat).getD j 0).toNat x.m] at hu
    have hb := qcH (K := qAB t) (x.step (((qAB t k.toNat).getD j 0).toNat,(k.toNat : Int),x.m,false)) ((qAB t k.toNat).getD j 0).toNat 0
    have e1 : (x.step (((qAB t k.toNat).getD j 0).toNat,(k.toNat : Int),x.m,false)).m = x.m + 1 := rfl
    have e2 : (x.step (((qAB t k.toNat).getD j 0).toNat,(k.toNat : Int),x.m,false)).I = x.I.set ((qAB t k.toNat).getD j 0).toNat (x.m : Int) := rfl
    have e3 : (x.step (((qAB t k.toNat).getD j 0).toNat,(k.toNat : Int),x.m,false)).O = x.O := rfl
    have e4 : (x.step (((qAB t k.toNat).getD j 0).toNat,(k.toNat : Int),x.m,false)).L.length = x.L.length + 1 := by show (x.L ++ [_]).length = _;simp
    have hE : StE (wkS (qAB t) x.L x.I x.O ((qAB t k.toNat).getD j 0).toNat x.m) (dR (qAB t) (x.step (((qAB t k.toNat).getD j 0).toNat,(k.toNat : Int),x.m,false)) ((qAB t k.toNat).getD j 0).toNat 0) := by
     unfold wkS
     exact StE.dR (StE.step (x := { L := x.L,P := [],I := x.I,O := x.O,m := x.m }) (y := x) ⟨rfl,rfl,rfl,rfl⟩ rfl rfl) _ _
    rw [e1,e2,e3,e4,List.length_set] at hb
    generalize dR (qAB t) (x.step (((qAB t k.toNat).getD j 0).toNat,(k.toNat : Int),x.m,false)) ((qAB t k.toNat).getD j 0).toNat 0 = y at *
    refine Rnd.mk ⟨(y,j + 1),⟨hD,by show y.I.length = _;omega,by show y.O.length = _;omega,by show y.m + 2 * unseen (sI y.I) + 1 ≤ 200;omega,by show y.L.length ≤ y.m;omega,by show unseen (sI y.I) ≤ N;omega,by show j + 1 ≤ _;omega⟩,by show _ - (j + 1) < _;omega,?_⟩
    repeat' ((conv => whnf);first|(with_reducible first|rfl|exact qAF|exact qAG)|exact True.intro|intro _|refine WA ?_ ?_|refine WF ?_|refine W1 rfl ?_ ?_|refine W2 rfl ?_ ?_|refine W3 rfl ?_ ?_|refine W4 ?_ ?_|refine W5 rfl ?_ ?_|refine W6 ?_ ?_|refine WN ?_|refine X1 (W1 rfl ?_ ?_)|refine X1 (W2 rfl ?_ ?_)|refine X2 (W7 rfl ?_ ?_)|refine X3 (W7 rfl ?_ ?_)|refine X4 (W7 rfl ?_ ?_)|refine X5 (W7 rfl ?_ ?_))
    all_goals (try (conv => whnf))
    all_goals (try first|exact obA|refine Ob.mk ?_)
    ·show ((wkS (qAB t) x.L x.I x.O ((qAB t k.toNat).getD j 0).toNat x.m).m : Int) = (y.m : Int)
     rw [hE.2.2.2]
    all_goals (try rfl)
    ·show Chunk.own qAH (qBK (wkS (qAB t) x.L x.I x.O ((qAB t k.toNat).getD j 0).toNat x.m).L) = Chunk.own qAH (qBK y.L)
     rw [hE.1]
    ·show Chunk.ow qAH (wkS (qAB t) x.L x.I x.O ((qAB t k.toNat).getD j 0).toNat x.m).I = Chunk.ow qAH y.I
     rw [hE.2.1]
    ·show Chunk.ow qAH (wkS (qAB t) x.L x.I x.O ((qAB t k.toNat).getD j 0).toNat x.m).O = Chunk.ow qAH y.O
     rw [hE.2.2.1]
   ·rename_i h1 h2 h3
    have hj : j < (qAB t k.toNat).length := by have h := of_decide_eq_true h2;exact Int.ofNat_lt.mp h
    have hc : okK (sI x.I) ((qAB t k.toNat).getD j 0) = false := by rw [← qUJ hI2];exact h3
    rw [qWS hj hc] at hD
    refine Rnd.mk ⟨(x,j + 1),⟨hD,hI2,hO2,hm2,hL2,hu2,by show j + 1 ≤ _;omega⟩,by show _ - (j + 1) < _;omega,?_⟩
    all_goals exact vcA
   all_goals (rename_i h1 h2)
   all_goals (have hj : ¬ j < (qAB t k.toNat).length := by have h := of_decide_eq_false h2;exact fun q => h (Int.ofNat_lt.mpr q))
   all_goals (rw [qV3 hj] at hD;rw [← hD])
   ·rfl
   ·rfl
   ·rfl
   ·rfl
instance hWalk (t : List qAE) (L : List Nat) (I O : List Int) (k : Int) (m : Nat) :
  FnM BB 117 [.agg [.rd qAC t],.int .i64 k,.own 0,.own 1,.own 2,.int .i64 m] [(0,.own qAH (qBK L)),(1,.ow qAH I),(2,.ow qAH O)]
   (qfF t L I O k m)
   (.tup [.own 0,.int .i64 ((wkS (qAB t) L I O k.toNat m).m : Int)]) [(0,.own qAH (qBK (wkS (qAB t) L I O k.toNat m).L)),(1,.ow qAH (wkS (qAB t) L I O k.toNat m).I),(2,.ow qAH (wkS (qAB t) L I O k.toNat m).O)] :=
 have h := qjI (unseen (sI (I.set k.toNat (m : Int))) + 1) t L I O k m
 ⟨h.call,fun hp => h.ok ⟨hp,Nat.lt_succ_self _⟩⟩
end Go.Vc

namespace Go.Vc
open Go.Proofs
set_option maxRecDepth 10000
set_option maxHeartbeats 4000000
instance hWalk0 (t : List qAE) (I O : List Int) :
  FnM BB 117 [.agg [.rd qAC t],.int .i64 0,.nils,.own 0,.own 1,.int .i64 0] [(0,.ow qAH I),(1,.ow qAH O)]
   (qfF t [] I O 0 0)
   (.tup [.own 2,.int .i64 ((wkS (qAB t) [] I O 0 0).m : Int)]) [(0,.ow qAH (wkS (qAB t) [] I O 0 0).I),(1,.ow qAH (wkS (qAB t) [] I O 0 0).O),(2,.own qAH (qBK (wkS (qAB t) [] I O 0 0).L))] := by
 refine FnM.intro (N := 79) [0,1,2,3,4,5,6,12,13,14,15,34,61] [] 2 Tryz.call117 Tryz.func117 rfl rfl (by kernel_rfl) (fun hpre => ?_)
 repeat' ((conv => whnf);first|(with_reducible first|rfl|exact qAF|exact qAG)|exact True.intro|intro _|refine WA ?_ ?_|refine WF ?_|refine W1 rfl ?_ ?_|refine W2 rfl ?_ ?_|refine W3 rfl ?_ ?_|refine W4 ?_ ?_|refine W5 rfl ?_ ?_|refine W6 ?_ ?_|refine WN ?_|refine X1 (W1 rfl ?_ ?_)|refine X1 (W2 rfl ?_ ?_)|refine X2 (W7 rfl ?_ ?_)|refine X3 (W7 rfl ?_ ?_)|refine X4 (W7 rfl ?_ ?_)|refine X5 (W7 rfl ?_ ?_))
 all_goals (try (conv => whnf))
 all_goals (try first|exact obA|refine Ob.mk ?_)
 all_goals (obtain ⟨ht,hIl,hOl,hk,hm,hL⟩ := hpre)
 ·show 0 ≤ (0 : Int) ∧ (0 : Int) < (I.length : Int);omega
 ·show 0 < I.length;omega
 have hk0 : (0 : Int).toNat = 0 := rfl
 generalize hx0 : (({ L := [],P := [],I := I,O := O,m := 0 } : St).step (0,0,0,false)) = x0
 have hxI : x0.I = I.set 0 0 := by rw [← hx0];rfl
 have hxL : x0.L = [0] := by rw [← hx0];rfl
 have hxO : x0.O = O := by rw [← hx0];rfl
 have hxm : x0.m = 1 := by rw [← hx0];rfl
 have hwk : wkS (qAB t) [] I O 0 0 = dR (qAB t) x0 0 0 := by unfold wkS;rw [hx0]
 rw [hwk]
 have hm : 2 * unseen (sI (I.set 0 0)) + 2 ≤ 200 := by have h : 0 + 2 * unseen (sI (I.set (0 : Int).toNat ((0 : Nat) : Int))) + 2 ≤ 200 := hm;have e : I.set (0 : Int).toNat ((0 : Nat) : Int) = I.set 0 0 := rfl;rw [e] at h;omega
 refine LoopStop.mk (α := St × Nat) (fun a => [(5,.int .i64 a.1.m),(14,.int .i64 a.2)]) (fun a => [(4,.own qAH (qBK a.1.L)),(0,.ow qAH a.1.I),(1,.ow qAH a.1.O)]) 60
  (fun a => dR (qAB t) a.1 0 a.2 = dR (qAB t) x0 0 0 ∧ a.1.I.length = t.length ∧ a.1.O.length = t.length ∧ a.1.m + 2 * unseen (sI a.1.I) + 1 ≤ 200 ∧ a.1.L.length ≤ a.1.m ∧ a.2 ≤ (qAB t 0).length)
  (fun a => (qAB t 0).length - a.2) (x0,0) ⟨rfl,by rw [hxI,List.length_set];exact hIl,by rw [hxO];exact hOl,by rw [hxI,hxm];omega,by rw [hxL,hxm];decide,Nat.zero_le _⟩ ?_ (fun a ha => ?_)
 ·repeat' ((conv => whnf);first|(with_reducible first|rfl|exact qAF|exact qAG)|exact True.intro|intro _|refine WA ?_ ?_|refine WF ?_|refine W1 rfl ?_ ?_|refine W2 rfl ?_ ?_|refine W3 rfl ?_ ?_|refine W4 ?_ ?_|refine W5 rfl ?_ ?_|refine W6 ?_ ?_|refine WN ?_|refine X1 (W1 rfl ?_ ?_)|refine X1 (W2 rfl ?_ ?_)|refine X2 (W7 rfl ?_ ?_)|refine X3 (W7 rfl ?_ ?_)|refine X4 (W7 rfl ?_ ?_)|refine X5 (W7 rfl ?_ ?_))
  all_goals (try (conv => whnf))
  all_goals (try first|exact obA|refine Ob.mk ?_)
  ·show _ = (x0.m : Int);rw [hxm];rfl
  ·show Chunk.own qAH _ = Chunk.own qAH (qBK x0.L)
   rw [hxL];rfl
  ·show Chunk.ow qAH _ = Chunk.ow qAH x0.I
   rw [hxI];rfl
  ·show Chunk.ow qAH _ = Chunk.ow qAH x0.O
   rw [hxO]
 ·obtain ⟨x,j⟩ := a
  dsimp only at ha ⊢
  obtain ⟨hD,hI2,hO2,hm2,hL2,hj2⟩ := ha
  repeat' ((conv => whnf);first|(with_reducible first|rfl|exact qAF|exact qAG)|exact True.intro|intro _|refine WA ?_ ?_|refine WF ?_|refine W1 rfl ?_ ?_|refine W2 rfl ?_ ?_|refine W3 rfl ?_ ?_|refine W4 ?_ ?_|refine W5 rfl ?_ ?_|refine W6 ?_ ?_|refine WN ?_|refine X1 (W1 rfl ?_ ?_)|refine X1 (W2 rfl ?_ ?_)|refine X2 (W7 rfl ?_ ?_)|refine X3 (W7 rfl ?_ ?_)|refine X4 (W7 rfl ?_ ?_)|refine X5 (W7 rfl ?_ ?_))
  all_goals (try (conv => whnf))
  all_goals (try first|exact obA|refine Ob.mk ?_)
  all_goals (try simp only [Int.toNat_natCast] at *)
  ·rename_i h1 h2 h3
   have hc : okK (sI x.I) ((qAB t 0).getD j 0) = true := by rw [← qUJ hI2];exact h3
   have hks := qBH hc
   have hls : (sI x.I).length = t.length := by unfold sI;rw [List.length_map];exact hI2
   have hu := qA8 hks.2.2
   rw [← qG4 x.I ((qAB t 0).getD j 0).toNat x.m] at hu
   show qfF t x.L x.I x.O ((qAB t 0).getD j 0) x.m
   exact ⟨ht,hI2,hO2,⟨hks.1,by omega⟩,by omega,hL2⟩
  ·rename_i h1 h2 h3
   have hj : j < (qAB t 0).length := by have h := of_decide_eq_true h2;exact Int.ofNat_lt.mp h
   have hc : okK (sI x.I) ((qAB t 0).getD j 0) = true := by rw [← qUJ hI2];exact h3
   rw [qd4 hj hc] at hD
   have hks := qBH hc
   have hu := qA8 hks.2.2
   rw [← qG4 x.I ((qAB t 0).getD j 0).toNat x.m] at hu
   have hb := qcH (K := qAB t) (x.step (((qAB t 0).getD j 0).toNat,(0 : Int),x.m,false)) ((qAB t 0).getD j 0).toNat 0
   have e1 : (x.step (((qAB t 0).getD j 0).toNat,(0 : Int),x.m,false)).m = x.m + 1 := rfl
   have e2 : (x.step (((qAB t 0).getD j 0).toNat,(0 : Int),x.m,false)).I = x.I.set ((qAB t 0).getD j 0).toNat (x.m : Int) := rfl
   have e3 : (x.step (((qAB t 0).getD j 0).toNat,(0 : Int),x.m,false)).O = x.O := rfl
   have e4 : (x.step (((qAB t 0).getD j 0).toNat,(0 : Int),x.m,false)).L.length = x.L.length + 1 := by show (x.L ++ [_]).length = _;simp
   have hE : StE (wkS (qAB t) x.L x.I x.O ((qAB t 0).getD j 0).toNat x.m) (dR (qAB t) (x.step (((qAB t 0).getD j 0).toNat,(0 : Int),x.m,false)) ((qAB t 0).getD j 0).toNat 0) := by
    unfold wkS
    exact StE.dR (StE.step (x := { L := x.L,P := [],I := x.I,O := x.O,m := x.m }) (y := x) ⟨rfl,rfl,rfl,rfl⟩ rfl rfl) _ _
   rw [e1,e2,e3,e4,List.length_set] at hb
   generalize dR (qAB t) (x.step (((qAB t 0).getD j 0).toNat,(0 : Int),x.m,false)) ((qAB t 0).getD j 0).toNat 0 = y at *
   refine Rnd.mk ⟨(y,j + 1),⟨hD,by show y.I.length = _;omega,by show y.O.length = _;omega,by show y.m + 2 * unseen (sI y.I) + 1 ≤ 200;omega,by show y.L.length ≤ y.m;omega,by show j + 1 ≤ _;omega⟩,by show _ - (j + 1) < _;omega,?_⟩
   repeat' ((conv => whnf);first|(with_reducible first|rfl|exact qAF|exact qAG)|exact True.intro|intro _|refine WA ?_ ?_|refine WF ?_|refine W1 rfl ?_ ?_|refine W2 rfl ?_ ?_|refine W3 rfl ?_ ?_|refine W4 ?_ ?_|refine W5 rfl ?_ ?_|refine W6 ?_ ?_|refine WN ?_|refine X1 (W1 rfl ?_ ?_)|refine X1 (W2 rfl ?_ ?_)|refine X2 (W7 rfl ?_ ?_)|refine X3 (W7 rfl ?_ ?_)|refine X4 (W7 rfl ?_ ?_)|refine X5 (W7 rfl ?_ ?_))
   all_goals (try (conv => whnf))
   all_goals (try first|exact obA|refine Ob.mk ?_)
   ·show ((wkS (qAB t) x.L x.I x.O ((qAB t 0).getD j 0).toNat x.m).m : Int) = (y.m : Int)
    rw [hE.2.2.2]
   all_goals (try rfl)
   ·show Chunk.own qAH (qBK (wkS (qAB t) x.L x.I x.O ((qAB t 0).getD j 0).toNat x.m).L) = Chunk.own qAH (qBK y.L)
    rw [hE.1]
   ·show Chunk.ow qAH (wkS (qAB t) x.L x.I x.O ((qAB t 0).getD j 0).toNat x.m).I = Chunk.ow qAH y.I
    rw [hE.2.1]
   ·show Chunk.ow qAH (wkS (qAB t) x.L x.I x.O ((qAB t 0).getD j 0).toNat x.m).O = Chunk.ow qAH y.O
    rw [hE.2.2.1]
  ·rename_i h1 h2 h3
   have hj : j < (qAB t 0).length := by have h := of_decide_eq_true h2;exact Int.ofNat_lt.mp h
   have hc : okK (sI x.I) ((qAB t 0).getD j 0) = false := by rw [← qUJ hI2];exact h3
   rw [qWS hj hc] at hD
   refine Rnd.mk ⟨(x,j + 1),⟨hD,hI2,hO2,hm2,hL2,by show j + 1 ≤ _;omega⟩,by show _ - (j + 1) < _;omega,?_⟩
   all_goals exact vcA
  all_goals (rename_i h1 h2)
  all_goals (have hj : ¬ j < (qAB t 0).length := by have h := of_decide_eq_false h2;exact fun q => h (Int.ofNat_lt.mpr q))
  all_goals (rw [qV3 hj] at hD;rw [← hD])
  ·rfl
  ·rfl
  ·rfl
  ·rfl
theorem qUK (s : List Bool) : unseen s ≤ s.length := by unfold unseen;exact List.count_le_length
instance hAll (l : List qAE) : Fn BB 61 [.agg [.rd qAC l]] (l.length ≤ 45) (.tup [.rd qAH (qBK (fin l).L),.rd qAH (fin l).I,.rd qAH (fin l).O]) := by
 refine Fn.intro (N := 42) [0,1,2,3,4,5,6,7,8,20,31] [(1,[0,0,0,6,0,0,0,6,6,6]),(2000007,[1,2])] Tryz.call61 Tryz.func61 rfl rfl (by kernel_rfl) (fun hpre => ?_)
 repeat' ((conv => whnf);first|(with_reducible first|rfl|exact qAF|exact qAG)|exact True.intro|intro _|refine WA ?_ ?_|refine WF ?_|refine W1 rfl ?_ ?_|refine W2 rfl ?_ ?_|refine W3 rfl ?_ ?_|refine W4 ?_ ?_|refine W5 rfl ?_ ?_|refine W6 ?_ ?_|refine WN ?_|refine X1 (W1 rfl ?_ ?_)|refine X1 (W2 rfl ?_ ?_)|refine X2 (W7 rfl ?_ ?_)|refine X3 (W7 rfl ?_ ?_)|refine X4 (W7 rfl ?_ ?_)|refine X5 (W7 rfl ?_ ?_))
 all_goals (try (conv => whnf))
 all_goals (try first|exact obA|refine Ob.mk ?_)
 all_goals (try simp only [bytes3,qWY] at *)
 all_goals (try omega)
 all_goals (rw [show ((l.length : Int)).toNat = l.length by omega])
 refine LoopStop.mk (α := Nat) (fun i => [(7,.int .i64 i)]) (fun i => [(1,.own qAH (List.replicate i (-1 : Int) ++ List.replicate (l.length - i) (0 : Int))),(2,.own qAH (List.replicate i (-1 : Int) ++ List.replicate (l.length - i) (0 : Int)))]) 40 (fun i => i ≤ l.length) (fun i => l.length - i) 0 (Nat.zero_le _) ?_ (fun i hi => ?_)
 ·all_goals exact vcA
 ·have hrl : (List.replicate i (-1 : Int) ++ List.replicate (l.length - i) (0 : Int)).length = l.length := by simp;omega
  repeat' ((conv => whnf);first|(with_reducible first|rfl|exact qAF|exact qAG)|exact True.intro|intro _|refine WA ?_ ?_|refine WF ?_|refine W1 rfl ?_ ?_|refine W2 rfl ?_ ?_|refine W3 rfl ?_ ?_|refine W4 ?_ ?_|refine W5 rfl ?_ ?_|refine W6 ?_ ?_|refine WN ?_|refine X1 (W1 rfl ?_ ?_)|refine X1 (W2 rfl ?_ ?_)|refine X2 (W7 rfl ?_ ?_)|refine X3 (W7 rfl ?_ ?_)|refine X4 (W7 rfl ?_ ?_)|refine X5 (W7 rfl ?_ ?_))
  all_goals (try (conv => whnf))
  all_goals (try first|exact obA|refine Ob.mk ?_)
  all_goals (try simp only [Int.toNat_natCast] at *)
  all_goals (try rw [hrl] at *)
  all_goals (try (have hlt : i < l.length := by have h := of_decide_eq_true ‹decide ((i : Int) < (l.length : Int)) = true›;omega))
  all_goals (try (have hin : i = l.length := by have h := of_decide_eq_false ‹decide ((i : Int) < (l.length : Int)) = false›;omega))
  ·refine Rnd.mk ⟨i + 1,by omega,by omega,?_⟩
   repeat' ((conv => whnf);first|(with_reducible first|rfl|exact qAF|exact qAG)|exact True.intro|intro _|refine WA ?_ ?_|refine WF ?_|refine W1 rfl ?_ ?_|refine W2 rfl ?_ ?_|refine W3 rfl ?_ ?_|refine W4 ?_ ?_|refine W5 rfl ?_ ?_|refine W6 ?_ ?_|refine WN ?_|refine X1 (W1 rfl ?_ ?_)|refine X1 (W2 rfl ?_ ?_)|refine X2 (W7 rfl ?_ ?_)|refine X3 (W7 rfl ?_ ?_)|refine X4 (W7 rfl ?_ ?_)|refine X5 (W7 rfl ?_ ?_))
   all_goals (try (conv => whnf))
   all_goals (try first|exact obA|refine Ob.mk ?_)
   all_goals (try rfl)
   all_goals (rw [qaM i l.length hlt])
  all_goals (subst hin;clear hrl)
  all_goals (try simp only [Nat.sub_self,List.replicate_zero,List.append_nil] at *)
  all_goals (try (have hpos : 0 < l.length := by have h := of_decide_eq_true ‹decide ((l.length : Int) > 0) = true›;omega))
  all_goals (try (have hE := qhU (qAB l) l.length hpos))
  ·have hu := qUK (sI ((List.replicate l.length (-1 : Int)).set (0 : Int).toNat ((0 : Nat) : Int)))
   have hul : (sI ((List.replicate l.length (-1 : Int)).set (0 : Int).toNat ((0 : Nat) : Int))).length = l.length := by unfold sI;simp
   exact ⟨hpre,by simp,by simp,⟨by omega,by omega⟩,by omega,Nat.le_refl _⟩
  ·rw [← hE.1];rfl
  ·rw [← hE.2.1];rfl
  ·rw [← hE.2.2.1];rfl
  all_goals (have hz : l.length = 0 := by have h := of_decide_eq_false ‹decide ((l.length : Int) > 0) = false›;omega)
  all_goals (have e : fin l = st0 l.length := by unfold fin qTB qQM;rw [if_pos hz];rfl)
  all_goals (rw [e])
  all_goals rfl
instance hList (l : List qAE) : Fn BB 14 [.agg [.rd qAC l]] (l.length ≤ 45) (.rd qAH (qBK (fin l).L)) := by
 refine Fn.intro (N := 13) [0,1,2,3] [] Tryz.call14 Tryz.func14 rfl rfl (by kernel_rfl) (fun hpre => ?_)
 repeat' ((conv => whnf);first|(with_reducible first|rfl|exact qAF|exact qAG)|exact True.intro|intro _|refine WA ?_ ?_|refine WF ?_|refine W1 rfl ?_ ?_|refine W2 rfl ?_ ?_|refine W3 rfl ?_ ?_|refine W4 ?_ ?_|refine W5 rfl ?_ ?_|refine W6 ?_ ?_|refine WN ?_|refine X1 (W1 rfl ?_ ?_)|refine X1 (W2 rfl ?_ ?_)|refine X2 (W7 rfl ?_ ?_)|refine X3 (W7 rfl ?_ ?_)|refine X4 (W7 rfl ?_ ?_)|refine X5 (W7 rfl ?_ ?_))
 all_goals (try (conv => whnf))
 all_goals (try first|exact obA|refine Ob.mk ?_)
 all_goals (first | exact hpre | rfl)
instance hMarks (l : List qAE) : Fn BB 156 [.agg [.rd qAC l]] (l.length ≤ 45) (.tup [.rd qAH (fin l).I,.rd qAH (fin l).O]) := by
 refine Fn.intro (N := 15) [0,1,2,3,5,6] [] Tryz.call156 Tryz.func156 rfl rfl (by kernel_rfl) (fun hpre => ?_)
 repeat' ((conv => whnf);first|(with_reducible first|rfl|exact qAF|exact qAG)|exact True.intro|intro _|refine WA ?_ ?_|refine WF ?_|refine W1 rfl ?_ ?_|refine W2 rfl ?_ ?_|refine W3 rfl ?_ ?_|refine W4 ?_ ?_|refine W5 rfl ?_ ?_|refine W6 ?_ ?_|refine WN ?_|refine X1 (W1 rfl ?_ ?_)|refine X1 (W2 rfl ?_ ?_)|refine X2 (W7 rfl ?_ ?_)|refine X3 (W7 rfl ?_ ?_)|refine X4 (W7 rfl ?_ ?_)|refine X5 (W7 rfl ?_ ?_))
 all_goals (try (conv => whnf))
 all_goals (try first|exact obA|refine Ob.mk ?_)
 all_goals (first | exact hpre | rfl)
end Go.Vc

namespace Go.Vc
open Go.Proofs
open Go.Vc.W
set_option maxRecDepth 10000
set_option maxHeartbeats 4000000
theorem qIX {t : List qAE} {m : Int} (h : qA4 t m = true) (i : Int) (hi : 0 ≤ i ∧ i < t.length) : qHK (nd t i) = true := by
 unfold qA4 at h
 rw [Bool.and_eq_true,List.all_eq_true] at h
 refine h.2 _ ?_
 have e : nd t i = t[i.toNat]'(by omega) := by unfold nd;rw [List.getD_eq_getElem?_getD,List.getElem?_eq_getElem (by omega)];rfl
 rw [e];exact List.getElem_mem _
theorem qUH {t : List qAE} {m : Int} (h : qA4 t m = true) : (t.length : Int) ≤ m := by
 unfold qA4 at h;rw [Bool.and_eq_true,decide_eq_true_eq] at h;exact h.1
theorem qCW {n : qAE} (h : qHK n = true) : n.2.2.1.length ≤ 40 ∧ n.2.2.2.1.length ≤ 14 ∧ n.2.2.2.2.1.length ≤ 300 ∧ n.kids.length ≤ 60 := by
 unfold qHK qGF at h
 simp only [Bool.and_eq_true,decide_eq_true_eq] at h
 omega
abbrev idT : List UInt8 := [105,100]
abbrev qIJ : List UInt8 := [110,97,109,101]
def qA9 (t : List qAE) : List Int := qBK (fin t).L
theorem qXI (t : List qAE) : (qA9 t).length ≤ t.length := by
 have d := qJQ (qAB t) t.length
 have h := qJS d.nod d.lt
 unfold qA9 qBK
 rw [List.length_map];exact h
theorem qFV (t : List qAE) (k : Nat) (h : k < (qA9 t).length) (d0 : Int) : 0 ≤ (qA9 t).getD k d0 ∧ (qA9 t).getD k d0 < t.length := by
 have d := qJQ (qAB t) t.length
 unfold qA9 qBK at *
 rw [List.length_map] at h
 rw [List.getD_eq_getElem?_getD,List.getElem?_map,List.getElem?_eq_getElem h]
 have := d.lt _ (List.getElem_mem h)
 show 0 ≤ ((fin t).L[k] : Int) ∧ ((fin t).L[k] : Int) < t.length
 have h2 : (fin t).L[k] < t.length := this
 omega
theorem qOA {p : Int → Bool} (L : List Int) (j : Nat) (h : j < L.length) (d : Int) : (L.take (j + 1)).filter p = (L.take j).filter p ++ (if p (L.getD j d) = true then [L.getD j d] else []) := by
 rw [List.take_succ_eq_append_getElem h,List.filter_append]
 have : L.getD j d = L[j] := by simp [List.getD,h]
 rw [this]
 congr 1
 simp [List.filter_cons]
theorem qiP {p : Int → Bool} {L : List Int} {j : Nat} (h : j < L.length) (d : Int) (hp : p (L.getD j d) = true) : (L.take (j + 1)).filter p = (L.take j).filter p ++ [L.getD j d] := by rw [qOA L j h d,if_pos hp]
theorem qk0 {p : Int → Bool} {L : List Int} {j : Nat} (h : j < L.length) (d : Int) (hp : p (L.getD j d) = false) : (L.take (j + 1)).filter p = (L.take j).filter p := by rw [qOA L j h d,if_neg (by rw [hp];decide),List.append_nil]
end Go.Vc

namespace Go.Vc
open Go.Proofs
set_option maxRecDepth 10000
set_option maxHeartbeats 4000000
theorem qTP (l : List Int) (k : Nat) (x : Int) (h : k < l.length) : ((l.take (k + 1)).count x : Int) = bif l.getD k 0 == x then ((l.take k).count x : Int) + 1 else ((l.take k).count x : Int) := by
 rw [take_snoc l k 0 h,List.count_append,List.count_cons,List.count_nil]
 cases e : l.getD k 0 == x <;> simp
instance rtTimes (l : List Int) (x : Int) : Fn BB 112 [.rd qAH l,.int .i64 x] (l.length ≤ 1000000) (.int .i64 (l.count x : Nat)) := by
 refine Fn.intro (N := 22) [0,1,4,5,6,10,18] [] Tryz.call112 Tryz.func112 rfl rfl (by kernel_rfl) (fun hpre => ?_)
 repeat' ((conv => whnf);first|(with_reducible first|rfl|exact qAF|exact qAG)|exact True.intro|intro _|refine WA ?_ ?_|refine WF ?_|refine W1 rfl ?_ ?_|refine W2 rfl ?_ ?_|refine W3 rfl ?_ ?_|refine W4 ?_ ?_|refine W5 rfl ?_ ?_|refine W6 ?_ ?_|refine WN ?_|refine X1 (W1 rfl ?_ ?_)|refine X1 (W2 rfl ?_ ?_)|refine X2 (W7 rfl ?_ ?_)|refine X3 (W7 rfl ?_ ?_)|refine X4 (W7 rfl ?_ ?_)|refine X5 (W7 rfl ?_ ?_))
 all_goals (try (conv => whnf))
 all_goals (try first|exact obA|refine Ob.mk ?_)
 refine LoopStop.mk (α := Nat) (fun i => [(6,.int .i64 i),(5,.int .i64 ((l.take i).count x : Nat))]) (fun _ => []) 20 (fun i => i ≤ l.length) (fun i => l.length - i) 0 (Nat.zero_le _) ?_ (fun i hi => ?_)
 ·all_goals exact vcA
 ·have hc : (l.take i).count x ≤ i := Nat.le_trans List.count_le_length (by rw [List.length_take];omega)
  repeat' ((conv => whnf);first|(with_reducible first|rfl|exact qAF|exact qAG)|exact True.intro|intro _|refine WA ?_ ?_|refine WF ?_|refine W1 rfl ?_ ?_|refine W2 rfl ?_ ?_|refine W3 rfl ?_ ?_|refine W4 ?_ ?_|refine W5 rfl ?_ ?_|refine W6 ?_ ?_|refine WN ?_|refine X1 (W1 rfl ?_ ?_)|refine X1 (W2 rfl ?_ ?_)|refine X2 (W7 rfl ?_ ?_)|refine X3 (W7 rfl ?_ ?_)|refine X4 (W7 rfl ?_ ?_)|refine X5 (W7 rfl ?_ ?_))
  all_goals (try (conv => whnf))
  all_goals (try first|exact obA|refine Ob.mk ?_)
  all_goals (try simp only [Int.toNat_natCast] at *)
  ·rename_i h1 h2
   have hl : i < l.length := by have := of_decide_eq_true h1;omega
   refine Rnd.mk ⟨i + 1,by omega,by omega,?_,?_,?_⟩
   repeat' ((conv => whnf);first|(with_reducible first|rfl|exact qAF|exact qAG)|exact True.intro|intro _|refine WA ?_ ?_|refine WF ?_|refine W1 rfl ?_ ?_|refine W2 rfl ?_ ?_|refine W3 rfl ?_ ?_|refine W4 ?_ ?_|refine W5 rfl ?_ ?_|refine W6 ?_ ?_|refine WN ?_|refine X1 (W1 rfl ?_ ?_)|refine X1 (W2 rfl ?_ ?_)|refine X2 (W7 rfl ?_ ?_)|refine X3 (W7 rfl ?_ ?_)|refine X4 (W7 rfl ?_ ?_)|refine X5 (W7 rfl ?_ ?_))
   all_goals (try (conv => whnf))
   all_goals (try first|exact obA|refine Ob.mk ?_)
   all_goals (first | rfl | (rw [qTP l i x hl,show (l.getD i 0 == x) = true from h2];rfl) | trace_state)
  ·rename_i h1 h2
   have hl : i < l.length := by have := of_decide_eq_true h1;omega
   refine Rnd.mk ⟨i + 1,by omega,by omega,?_,?_,?_⟩
   repeat' ((conv => whnf);first|(with_reducible first|rfl|exact qAF|exact qAG)|exact True.intro|intro _|refine WA ?_ ?_|refine WF ?_|refine W1 rfl ?_ ?_|refine W2 rfl ?_ ?_|refine W3 rfl ?_ ?_|refine W4 ?_ ?_|refine W5 rfl ?_ ?_|refine W6 ?_ ?_|refine WN ?_|refine X1 (W1 rfl ?_ ?_)|refine X1 (W2 rfl ?_ ?_)|refine X2 (W7 rfl ?_ ?_)|refine X3 (W7 rfl ?_ ?_)|refine X4 (W7 rfl ?_ ?_)|refine X5 (W7 rfl ?_ ?_))
   all_goals (try (conv => whnf))
   all_goals (try first|exact obA|refine Ob.mk ?_)
   all_goals (first | rfl | (rw [qTP l i x hl,show (l.getD i 0 == x) = false from h2];rfl) | trace_state)
  ·rename_i h1
   have hl : i = l.length := by have := of_decide_eq_false h1;omega
   rw [hl,List.take_length]
def qHB (t : List qAE) : Nat → Int → Bool
 | 0,_ => false
 | f + 1,i => bif (nd t i).up == -1 then true else qHB t f (nd t i).up
def qgE (t : List qAE) : Prop := ∀ i : Int,0 ≤ i ∧ i < t.length → (nd t i).up = -1 ∨ (0 ≤ (nd t i).up ∧ (nd t i).up < t.length)
instance rtHeld (t : List qAE) (i : Int) : Fn BB 113 [.agg [.rd qAC t],.int .i64 i] ((0 ≤ i ∧ i < t.length) ∧ qgE t ∧ t.length ≤ 1000000) (.bool (qHB t (t.length + 1) i)) := by
 refine Fn.intro (N := 26) [0,1,2,4,5,10,19] [] Tryz.call113 Tryz.func113 rfl rfl (by kernel_rfl) (fun hpre => ?_)
 obtain ⟨h1,h2,h3⟩ := hpre
 repeat' ((conv => whnf);first|(with_reducible first|rfl|exact qAF|exact qAG)|exact True.intro|intro _|refine WA ?_ ?_|refine WF ?_|refine W1 rfl ?_ ?_|refine W2 rfl ?_ ?_|refine W3 rfl ?_ ?_|refine W4 ?_ ?_|refine W5 rfl ?_ ?_|refine W6 ?_ ?_|refine WN ?_|refine X1 (W1 rfl ?_ ?_)|refine X1 (W2 rfl ?_ ?_)|refine X2 (W7 rfl ?_ ?_)|refine X3 (W7 rfl ?_ ?_)|refine X4 (W7 rfl ?_ ?_)|refine X5 (W7 rfl ?_ ?_))
 all_goals (try (conv => whnf))
 all_goals (try first|exact obA|refine Ob.mk ?_)
 refine LoopStop.mk (α := Nat × Int) (fun a => [(5,.int .i64 (a.1 : Nat)),(1,.int .i64 a.2)]) (fun _ => []) 20 (fun a => a.1 ≤ t.length + 1 ∧ (0 ≤ a.2 ∧ a.2 < t.length) ∧ qHB t (t.length + 1) i = qHB t (t.length + 1 - a.1) a.2) (fun a => t.length + 1 - a.1) (0,i) ⟨by simp,h1,rfl⟩ ?_ (fun a ha => ?_)
 ·all_goals exact vcA
 ·obtain ⟨k,j⟩ := a
  obtain ⟨g1,g2,g3⟩ := ha
  dsimp only at g1 g2 g3
  have hu := h2 j g2
  have st : k ≤ t.length → qHB t (t.length + 1 - k) j = bif (nd t j).up == -1 then true else qHB t (t.length + 1 - (k + 1)) (nd t j).up := fun h => by
   rw [show t.length + 1 - k = (t.length - k) + 1 by omega,qHB,show t.length + 1 - (k + 1) = t.length - k by omega]
  repeat' ((conv => whnf);first|(with_reducible first|rfl|exact qAF|exact qAG)|exact True.intro|intro _|refine WA ?_ ?_|refine WF ?_|refine W1 rfl ?_ ?_|refine W2 rfl ?_ ?_|refine W3 rfl ?_ ?_|refine W4 ?_ ?_|refine W5 rfl ?_ ?_|refine W6 ?_ ?_|refine WN ?_|refine X1 (W1 rfl ?_ ?_)|refine X1 (W2 rfl ?_ ?_)|refine X2 (W7 rfl ?_ ?_)|refine X3 (W7 rfl ?_ ?_)|refine X4 (W7 rfl ?_ ?_)|refine X5 (W7 rfl ?_ ?_))
  all_goals (try (conv => whnf))
  all_goals (try first|exact obA|refine Ob.mk ?_)
  all_goals (try dsimp only at *)
  all_goals (try (exact g2))
  all_goals (try omega)
  ·rename_i c1 c2
   have hk : k ≤ t.length := by have := of_decide_eq_true c1;omega
   rw [g3,st hk,show ((nd t j).up == -1) = true from c2];rfl
  ·rename_i c1 c2
   have hk : k ≤ t.length := by have := of_decide_eq_true c1;omega
   have hne : (nd t j).up ≠ -1 := fun e => by
    rw [show ((nd t j).up == -1) = true from beq_iff_eq.2 e] at c2
    cases c2
   refine Rnd.mk ⟨(k + 1,(nd t j).up),⟨by (simp only;omega),by (simp only;exact hu.resolve_left hne),by rw [g3,st hk,show ((nd t j).up == -1) = false from c2];rfl⟩,by (simp only;omega),?_,?_,?_⟩
   all_goals exact vcA
  ·rename_i c1
   have hk : k = t.length + 1 := by have := of_decide_eq_false c1;omega
   rw [g3,hk,Nat.sub_self];rfl
end Go.Vc

namespace Go.Vc
open Go.Proofs
set_option maxRecDepth 10000
set_option maxHeartbeats 8000000
def ndR (t : List qAE) (i : Nat) : qAE := t.getD i qAC.dflt
def qbP (t : List qAE) (i : Nat) : Bool := decide ((i : Int) > 0) && (decide ((ndR t i).1 < 1) || decide ((ndR t i).1 > 4) || decide ((ndR t i).up < -1) || decide ((ndR t i).up ≥ (t.length : Int)))
def quU (t : List qAE) (i : Nat) : Bool := decide ((ndR t i).up ≥ 0) && (decide ((nd t (ndR t i).up).1 > 1) || ((nd t (ndR t i).up).kids.count (i : Int) : Int) != 1)
def qsX (t : List qAE) (i : Nat) (k : Int) : Bool := decide (k < 0) || decide (k ≥ (t.length : Int)) || (nd t k).up != (i : Int)
def okN (t : List qAE) (i : Nat) : Bool := !qbP t i && !quU t i && (ndR t i).kids.all fun k => !qsX t i k
def badR (t : List qAE) : Bool := (t.length : Int) == 0 || (nd t 0).1 != 0 || (nd t 0).up != -1
def qE4 (t : List qAE) : Bool := !badR t && ((List.range t.length).all (okN t) && (List.range t.length).all fun i => qHB t (t.length + 1) i)
theorem qCS (p : Nat → Bool) (n i : Nat) (hi : i < n) (h : p i = false) : (List.range n).all p = false := by
 rw [List.all_eq_false]
 exact ⟨i,List.mem_range.2 hi,by rw [h];decide⟩
theorem qHC (p : Nat → Bool) (n : Nat) (h : ∀ k,k < n → p k = true) : (List.range n).all p = true := by
 rw [List.all_eq_true]
 exact fun k hk => h k (List.mem_range.1 hk)
instance rtRight (t : List qAE) : Fn BB 56 [.agg [.rd qAC t]] (t.length ≤ 1000 ∧ ∀ i,(nd t i).kids.length ≤ 1000) (.bool (qE4 t)) := by
  refine Fn.intro (N := 138) [0,1,2,3,4,5,6,26,31,63,88,93,126,131,137] [(14,[0,1,0,1,1,1,1,1,1,1,1,1,1,1,1,1,1,1,1,1,1,1,1,1,1,1,1,1,1,3,3])] Tryz.call56 Tryz.func56 rfl rfl (by kernel_rfl) (fun hpre => ?_)
  obtain ⟨h1,h2⟩ := hpre
  have bt : badR t = true → qE4 t = false := fun h => by unfold qE4;rw [h];rfl
  have bf : badR t = false → 0 < t.length := fun h => by
    unfold badR at h
    simp only [Bool.or_eq_false_iff,beq_eq_false_iff_ne] at h
    have := h.1.1;omega
  repeat' ((conv => whnf);first|(with_reducible first|rfl|exact qAF|exact qAG)|exact True.intro|intro _|refine WA ?_ ?_|refine WF ?_|refine W1 rfl ?_ ?_|refine W2 rfl ?_ ?_|refine W3 rfl ?_ ?_|refine W4 ?_ ?_|refine W5 rfl ?_ ?_|refine W6 ?_ ?_|refine WN ?_|refine X1 (W1 rfl ?_ ?_)|refine X1 (W2 rfl ?_ ?_)|refine X2 (W7 rfl ?_ ?_)|refine X3 (W7 rfl ?_ ?_)|refine X4 (W7 rfl ?_ ?_)|refine X5 (W7 rfl ?_ ?_))
  all_goals (try (conv => whnf))
  all_goals (try first|exact obA|refine Ob.mk ?_)
  all_goals (try (have hz : ¬ t.length = 0 := fun e => by (have h := ‹((t.length : Int) == 0 || _) = false›;rw [Bool.or_eq_false_iff] at h;have := beq_eq_false_iff_ne.1 h.1;omega)))
  all_goals (try omega)
  · exact (bt ‹_›).symm
  have hbad : badR t = false := ‹_›
  have hpos := bf hbad
  have hup0 : (nd t 0).up = -1 := by
    unfold badR at hbad
    simp only [Bool.or_eq_false_iff] at hbad
    have := hbad.2
    simpa using this
  have red : qE4 t = ((List.range t.length).all (okN t) && (List.range t.length).all fun i => qHB t (t.length + 1) i) := by unfold qE4;rw [hbad];rfl
  rw [red]
  refine LoopStop.mk (α := Nat) (fun i => [(3,.int .i64 i)]) (fun _ => []) 20 (fun i => i ≤ t.length ∧ ∀ k,k < i → okN t k = true) (fun i => t.length - i) 0 ⟨Nat.zero_le _,fun k hk => absurd hk (Nat.not_lt_zero _)⟩ ?_ (fun i hi => ?_)
  · all_goals exact vcA
  · obtain ⟨hi,hall⟩ := hi
    have fA : qbP t i = true → okN t i = false := fun h => by unfold okN;rw [h];rfl
    have fB : quU t i = true → okN t i = false := fun h => by unfold okN;rw [h];simp
    have fU : qbP t i = false → i < t.length → (ndR t i).up = -1 ∨ (0 ≤ (ndR t i).up ∧ (ndR t i).up < t.length) := fun h hl => by
      by_cases e : i = 0
      · left;subst e;exact hup0
      · unfold qbP at h
        rw [decide_eq_true (by omega),Bool.true_and] at h
        simp only [Bool.or_eq_false_iff] at h
        have a1 := of_decide_eq_false h.1.2
        have a2 := of_decide_eq_false h.2
        omega
    repeat' ((conv => whnf);first|(with_reducible first|rfl|exact qAF|exact qAG)|exact True.intro|intro _|refine WA ?_ ?_|refine WF ?_|refine W1 rfl ?_ ?_|refine W2 rfl ?_ ?_|refine W3 rfl ?_ ?_|refine W4 ?_ ?_|refine W5 rfl ?_ ?_|refine W6 ?_ ?_|refine WN ?_|refine X1 (W1 rfl ?_ ?_)|refine X1 (W2 rfl ?_ ?_)|refine X2 (W7 rfl ?_ ?_)|refine X3 (W7 rfl ?_ ?_)|refine X4 (W7 rfl ?_ ?_)|refine X5 (W7 rfl ?_ ?_))
    all_goals (try (conv => whnf))
    all_goals (try first|exact obA|refine Ob.mk ?_)
    all_goals (try simp only [Int.toNat_natCast] at *)
    all_goals (try (have hlt : i < t.length := by have := of_decide_eq_true ‹decide ((i : Int) < (t.length : Int)) = true›;omega))
    all_goals (try (have hA : qbP t i = false := by assumption))
    all_goals (try (have hUp := fU hA hlt))
    all_goals (try (have hge := of_decide_eq_true (show decide ((ndR t i).up ≥ 0) = true by assumption);first
      | exact hUp.resolve_left (by omega)
      | exact Nat.le_trans (h2 _) (by omega)
      | (show Int.toNat (ndR t i).up < _;omega)))
    all_goals (try (rw [qCS _ _ i hlt (fA (by assumption))];rfl))
    all_goals (try (rw [qCS _ _ i hlt (fB (by assumption))];rfl))
    · have hB : quU t i = false := by assumption
      have fK : ∀ k,k ∈ (ndR t i).kids → qsX t i k = true → okN t i = false := fun k hk h => by
        unfold okN
        rw [hA,hB]
        simp only [Bool.not_false,Bool.true_and,List.all_eq_false]
        exact ⟨k,hk,by rw [h];decide⟩
      have hkl : (ndR t i).kids.length ≤ 1000 := by have := h2 (i : Int);unfold nd at this;rw [Int.toNat_natCast] at this;exact this
      refine LoopStop.mk (α := Nat) (fun j => [(5,.int .i64 j)]) (fun _ => []) 60 (fun j => j ≤ (ndR t i).kids.length ∧ ∀ k,k < j → qsX t i ((ndR t i).kids.getD k 0) = false) (fun j => (ndR t i).kids.length - j) 0 ⟨Nat.zero_le _,fun k hk => absurd hk (Nat.not_lt_zero _)⟩ ?_ (fun j hj => ?_)
      · all_goals exact vcA
      · obtain ⟨hj,hjall⟩ := hj
        repeat' ((conv => whnf);first|(with_reducible first|rfl|exact qAF|exact qAG)|exact True.intro|intro _|refine WA ?_ ?_|refine WF ?_|refine W1 rfl ?_ ?_|refine W2 rfl ?_ ?_|refine W3 rfl ?_ ?_|refine W4 ?_ ?_|refine W5 rfl ?_ ?_|refine W6 ?_ ?_|refine WN ?_|refine X1 (W1 rfl ?_ ?_)|refine X1 (W2 rfl ?_ ?_)|refine X2 (W7 rfl ?_ ?_)|refine X3 (W7 rfl ?_ ?_)|refine X4 (W7 rfl ?_ ?_)|refine X5 (W7 rfl ?_ ?_))
        all_goals (try (conv => whnf))
        all_goals (try first|exact obA|refine Ob.mk ?_)
        all_goals (try simp only [Int.toNat_natCast] at *)
        all_goals (try (have hjl : j < (ndR t i).kids.length := by have := of_decide_eq_true (show decide ((j : Int) < ((ndR t i).kids.length : Int)) = true by assumption);omega))
        · have h := ‹(decide (_ < (0 : Int)) || decide (_ ≥ (t.length : Int))) = false›
          rw [Bool.or_eq_false_iff] at h
          have a1 := of_decide_eq_false h.1
          have a2 := of_decide_eq_false h.2
          omega
        · have hmem : (ndR t i).kids.getD j 0 ∈ (ndR t i).kids := by
            have e : (ndR t i).kids.getD j 0 = (ndR t i).kids[j] := by simp [List.getD,hjl]
            rw [e];exact List.getElem_mem _
          rw [qCS _ _ i hlt (fK _ hmem (by assumption))];rfl
        · have hk : qsX t i ((ndR t i).kids.getD j 0) = false := by assumption
          refine Rnd.mk ⟨j + 1,⟨by omega,fun k hk' => by (rcases Nat.lt_or_ge k j with q | q);exact hjall k q;(have : k = j := by omega);subst this;exact hk⟩,by omega,?_,?_,?_⟩
          all_goals exact vcA
        · have hje : j = (ndR t i).kids.length := by have := of_decide_eq_false (show decide ((j : Int) < ((ndR t i).kids.length : Int)) = false by assumption);omega
          have hok : okN t i = true := by
            unfold okN
            rw [hA,hB]
            simp only [Bool.not_false,Bool.true_and,List.all_eq_true]
            intro k hk
            obtain ⟨m,hm,rfl⟩ := List.getElem_of_mem hk
            have := hjall m (by omega)
            rw [show (ndR t i).kids.getD m 0 = (ndR t i).kids[m] by simp [List.getD,hm]] at this
            rw [this];rfl
          refine Rnd.mk ⟨i + 1,⟨by omega,fun k hk' => by (rcases Nat.lt_or_ge k i with q | q);exact hall k q;(have : k = i := by omega);subst this;exact hok⟩,by omega,?_,?_,?_⟩
          all_goals exact vcA
    · have hie : i = t.length := by have := of_decide_eq_false ‹decide ((i : Int) < (t.length : Int)) = false›;omega
      have e1 : (List.range t.length).all (okN t) = true := qHC _ _ (fun k hk => hall k (by omega))
      have hups : qgE t := fun x hx => by
        have hx2 : x.toNat < t.length := by omega
        have h := hall x.toNat (by omega)
        have hA : qbP t x.toNat = false := by unfold okN at h;cases e : qbP t x.toNat <;> rw [e] at h <;> simp_all
        have e3 : ndR t x.toNat = nd t x := rfl
        by_cases e : x.toNat = 0
        · left
          have : x = 0 := by omega
          subst this;exact hup0
        · unfold qbP at hA
          rw [decide_eq_true (by omega),Bool.true_and,e3] at hA
          simp only [Bool.or_eq_false_iff] at hA
          have a1 := of_decide_eq_false hA.1.2
          have a2 := of_decide_eq_false hA.2
          omega
      rw [e1,Bool.true_and]
      refine LoopStop.mk (α := Nat) (fun j => [(6,.int .i64 j)]) (fun _ => []) 60 (fun j => j ≤ t.length ∧ ∀ k,k < j → qHB t (t.length + 1) (k : Nat) = true) (fun j => t.length - j) 0 ⟨Nat.zero_le _,fun k hk => absurd hk (Nat.not_lt_zero _)⟩ ?_ (fun j hj => ?_)
      · all_goals exact vcA
      · obtain ⟨hj,hjall⟩ := hj
        repeat' ((conv => whnf);first|(with_reducible first|rfl|exact qAF|exact qAG)|exact True.intro|intro _|refine WA ?_ ?_|refine WF ?_|refine W1 rfl ?_ ?_|refine W2 rfl ?_ ?_|refine W3 rfl ?_ ?_|refine W4 ?_ ?_|refine W5 rfl ?_ ?_|refine W6 ?_ ?_|refine WN ?_|refine X1 (W1 rfl ?_ ?_)|refine X1 (W2 rfl ?_ ?_)|refine X2 (W7 rfl ?_ ?_)|refine X3 (W7 rfl ?_ ?_)|refine X4 (W7 rfl ?_ ?_)|refine X5 (W7 rfl ?_ ?_))
        all_goals (try (conv => whnf))
        all_goals (try first|exact obA|refine Ob.mk ?_)
        all_goals (try simp only [Int.toNat_natCast] at *)
        all_goals (try (have hjl : j < t.length := by have := of_decide_eq_true ‹decide ((j : Int) < (t.length : Int)) = true›;omega))
        all_goals (try exact ⟨by omega,hups,by omega⟩)
        · have h : qHB t (t.length + 1) (j : Nat) = false := by simpa using ‹(!qHB t (t.length + 1) _) = true›
          rw [qCS _ _ j hjl h]
        · have h : qHB t (t.length + 1) (j : Nat) = true := by simpa using ‹(!qHB t (t.length + 1) _) = false›
          refine Rnd.mk ⟨j + 1,⟨by omega,fun k hk' => by (rcases Nat.lt_or_ge k j with q | q);exact hjall k q;(have : k = j := by omega);subst this;exact h⟩,by omega,?_,?_,?_⟩
          all_goals exact vcA
        · have hje : j = t.length := by have := of_decide_eq_false ‹decide ((j : Int) < (t.length : Int)) = false›;omega
          rw [qHC _ _ (fun k hk => hjall k (by omega))]
end Go.Vc

namespace Go.Vc
open Go.Proofs
open Go.Vc.W
set_option maxRecDepth 10000
set_option maxHeartbeats 4000000
theorem qkK {t : List qAE} {m : Int} (h : qA4 t m = true) (i : Int) : (nd t i).kids.length ≤ 60 := by
 by_cases hi : 0 ≤ i ∧ i < t.length
 ·exact (qCW (qIX h i hi)).2.2.2
 ·by_cases h2 : i.toNat < t.length
  ·have e : nd t i = nd t (i.toNat : Int) := rfl
   rw [e];exact (qCW (qIX h (i.toNat : Int) ⟨by omega,by omega⟩)).2.2.2
  ·have : nd t i = qAC.dflt := by unfold nd;rw [List.getD_eq_getElem?_getD,List.getElem?_eq_none (by omega)];rfl
   rw [this];decide
instance iRight (t : List qAE) (m : Int) : Fn BB 11 [.agg [.rd qAC t],.int .i64 m] (m ≤ 45) (.bool (qA4 t m && qE4 t)) := by
 refine Fn.intro (N := 12) [0,1,2,4] [] Tryz.call11 Tryz.func11 rfl rfl (by kernel_rfl) (fun hpre => ?_)
 repeat' ((conv => whnf);first|(with_reducible first|rfl|exact qAF|exact qAG)|exact True.intro|intro _|refine WA ?_ ?_|refine WF ?_|refine W1 rfl ?_ ?_|refine W2 rfl ?_ ?_|refine W3 rfl ?_ ?_|refine W4 ?_ ?_|refine W5 rfl ?_ ?_|refine W6 ?_ ?_|refine WN ?_|refine X1 (W1 rfl ?_ ?_)|refine X1 (W2 rfl ?_ ?_)|refine X2 (W7 rfl ?_ ?_)|refine X3 (W7 rfl ?_ ?_)|refine X4 (W7 rfl ?_ ?_)|refine X5 (W7 rfl ?_ ?_))
 all_goals (try (conv => whnf))
 all_goals (try first|exact obA|refine Ob.mk ?_)
 all_goals (have h1 := qUH ‹qA4 t m = true›;exact ⟨by omega,fun i => Nat.le_trans (qkK ‹qA4 t m = true› i) (by decide)⟩)
def qG1 (el nm v : List UInt8) (n : qAE) : Bool := n.1 == 1 && ((el == []) || (n.2.1 == 0 && n.2.2.1 == el)) && (qbZ n.2.2.2.1 nm == v)
def qEK (t : List qAE) (el nm v : List UInt8) : Int := if v = [] then 0 else ((qA9 t).find? fun i => qG1 el nm v (nd t i)).getD 0
theorem qjC {p : Int → Bool} : ∀ {L : List Int} {k : Nat},k < L.length → (∀ j,j < k → p (L.getD j 0) = false) → p (L.getD k 0) = true → L.find? p = some (L.getD k 0) := by
 intro L
 induction L with
 | nil => intro k h;exact absurd h (Nat.not_lt_zero _)
 | cons a L ih =>
  intro k h h0 h1
  cases k with
  | zero => rw [List.find?_cons];simp only [List.getD_cons_zero] at *;rw [h1]
  | succ k =>
   have ha := h0 0 (Nat.succ_pos _)
   rw [List.getD_cons_zero] at ha
   rw [List.find?_cons,ha]
   exact ih (Nat.lt_of_succ_lt_succ h) (fun j hj => h0 (j + 1) (Nat.succ_lt_succ hj)) h1
theorem qL3 {p : Int → Bool} {L : List Int} (h0 : ∀ j,j < L.length → p (L.getD j 0) = false) : L.find? p = none := by
 rw [List.find?_eq_none]
 intro x hx
 obtain ⟨j,hj,e⟩ := List.mem_iff_getElem.1 hx
 have := h0 j hj
 rw [List.getD_eq_getElem?_getD,List.getElem?_eq_getElem hj] at this
 simp only [Option.getD_some,e] at this
 rw [this];decide
def firstT (t : List qAE) (v : List UInt8) : Int := qEK t [] idT v
end Go.Vc
