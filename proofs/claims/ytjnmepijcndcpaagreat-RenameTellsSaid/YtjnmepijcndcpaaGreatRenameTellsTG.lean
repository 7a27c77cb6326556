/- A part of the proof: lemmas and walks that the last text of the claim joins; no condition. -/
import Derived.Test.YtjnmepijcndcpaaGreatRenameTellsVF
import Derived.Laws.Externs
import Derived.Test.YtjnmepijcndcpaaGreatProg
import Derived.Shelf.Spec.SlicesInsert
import Derived.Shelf.Spec.SlicesInsertGrow
import Derived.Shelf.Strings.Builder1
import Derived.Shelf.Strings.Builder2
import Derived.Shelf.Strings.OnBuilder
import Derived.Shelf.Strings.BuilderF
import Derived.Shelf.Strings.BuilderK
import Derived.Shelf.Strings.Builder2Cap
import Derived.Shelf.Strings.Search1
import Derived.Shelf.Strings.Search2
import Derived.Shelf.Strings.Search3
import Derived.Shelf.LaysM
import Derived.Shelf.Strings.Shaped
import Derived.Shelf.Strings.Prefix
import Derived.Shelf.Strings.FieldsFuncAny
import Derived.Shelf.Slices.Turned
import Derived.Shelf.Slices.Equal
import Derived.Ground.Names2Prog
import Derived.Shelf.Slices.Clone
import Derived.Shelf.Slices.Empties2
import Derived.Ground.SlgnProg
import Derived.Shelf.SlicesE.Clone
import Derived.Test.YtjnmepijcndcpaaGreatRenameTellsTA
import Derived.Shelf.Slices.Delete
import Derived.Shelf.Slices.Cells
import Derived.Shelf.Slices.Empties
set_option linter.unusedVariables false
set_option linter.unusedSimpArgs false
set_option maxHeartbeats 8000000
namespace Go.Vc
open Go.Proofs
theorem mixed : Tryz.prog.follows .mixedOrders = true := by kernel_rfl
abbrev jKG : Ty := .int .i64
abbrev jxU : Ty := .pr jKG jKG
abbrev jKP : Ty := .pr .str .str
abbrev kEE : Ty := .pr jKG (.pr .str (.pr (.sl jKP) (.pr .bool .str)))
abbrev jKA : Ty := .pr jKG (.pr jKG (.pr .str (.pr (.sl jKP) (.pr .str (.pr jKG (.sl jKG))))))
abbrev kD1 : Ty := .pr jKG (.pr .str (.pr jKG (.pr .str jKG)))
def tyB (t : TypeId) : Option Ty :=
 bif Nat.beq t 3 then some jKG else bif Nat.beq t 4 then some .bool else bif Nat.beq t 5 then some .byte else bif Nat.beq t 9 then some .str else bif Nat.beq t 54 then some jKP else bif Nat.beq t 49 then some jKA else bif Nat.beq t 200 then some jxU else bif Nat.beq t 164 then some kEE else bif Nat.beq t 26 then some (.sl .str) else bif Nat.beq t 172 then some jxU else bif Nat.beq t 83 then some .cpx else bif Nat.beq t 130 then some .flt else bif Nat.beq t 69 then some kD1 else bif Nat.beq t 150 then some .str else none
def kGO (t : TypeId) : Bool := Nat.beq t 54 || Nat.beq t 69
theorem jm7 : ∀ t, kGO t = true → Tryz.prog.stoodInHeld t = false ∧ Tryz.prog.eqGuardType Tryz.prog.depth t = false ∧ ((Tryz.prog.fieldsOf t).toList.all fun f => f.name != "_") = true := by
 intro t h
 rcases Bool.or_eq_true_iff.1 h with h | h
 all_goals (obtain rfl := jKF h;exact ⟨by kernel_rfl,by kernel_rfl,by kernel_rfl⟩)
def neB (f : FuncId) : Bool := Nat.beq f 255
theorem juL : ∀ f,neB f = true → ∀ (x : Value) (w : World),(callFunc f #[x]).run Tryz.prog w = .ok (.value x) w := by
 intro f h x w
 obtain rfl := jKF h
 rw [run_callFunc_extern Tryz.func255 (by kernel_rfl) (by kernel_rfl) (by kernel_rfl) (e := Extern.AbiNoEscape.same) (by kernel_rfl)]
 rfl
def tbB (t : TypeId) : Bool := Nat.beq t 191
noncomputable abbrev BB : Base := { P := Tryz.prog,mixed := mixed,G := fun r => ∃ c T fr m,r 0 = some (.cells c T fr) ∧ c[0]? = some (.int .i64 m),mono := fun r r' h ⟨c,T,fr,m,h1,h2⟩ => ⟨c,T,fr,m,h 0 _ h1,h2⟩,ty0 := tyB,eqs := kGO,eqs_ok := jm7,ne := neB,ne_ok := juL,tb := tbB }
set_option maxRecDepth 10000
@[simp] theorem kGY : jJ9 Tryz.prog 1 = 8 := rfl
@[simp] theorem kDY : jJ9 BB.P 1 = 8 := rfl
@[simp] theorem kGX : jJ9 Tryz.prog 2 = 8 := rfl
@[simp] theorem kGA : jJ9 BB.P 2 = 8 := rfl
@[simp] theorem bytes3 : jJ9 Tryz.prog 3 = 8 := rfl
@[simp] theorem jh4 : jJ9 BB.P 3 = 8 := rfl
@[simp] theorem bytes4 : jJ9 Tryz.prog 4 = 1 := rfl
@[simp] theorem kFQ : jJ9 BB.P 4 = 1 := rfl
@[simp] theorem bytes5 : jJ9 Tryz.prog 5 = 1 := rfl
@[simp] theorem kEK : jJ9 BB.P 5 = 1 := rfl
@[simp] theorem kGN : jJ9 Tryz.prog 6 = 1 := rfl
@[simp] theorem kFY : jJ9 BB.P 6 = 1 := rfl
@[simp] theorem kGQ : jJ9 Tryz.prog 7 = 24 := rfl
@[simp] theorem kEQ : jJ9 BB.P 7 = 24 := rfl
@[simp] theorem kGS : jJ9 Tryz.prog 8 = 24 := rfl
@[simp] theorem kDQ : jJ9 BB.P 8 = 24 := rfl
@[simp] theorem bytes9 : jJ9 Tryz.prog 9 = 16 := rfl
@[simp] theorem kEU : jJ9 BB.P 9 = 16 := rfl
@[simp] theorem kDO : jJ9 Tryz.prog 10 = 16 := rfl
@[simp] theorem kCD : jJ9 BB.P 10 = 16 := rfl
@[simp] theorem kDC : jJ9 Tryz.prog 11 = 16 := rfl
@[simp] theorem jxF : jJ9 BB.P 11 = 16 := rfl
@[simp] theorem kDB : jJ9 Tryz.prog 12 = 8 := rfl
@[simp] theorem jx7 : jJ9 BB.P 12 = 8 := rfl
@[simp] theorem kEV : jJ9 Tryz.prog 13 = 24 := rfl
@[simp] theorem jzV : jJ9 BB.P 13 = 24 := rfl
@[simp] theorem kEG : jJ9 Tryz.prog 14 = 24 := rfl
@[simp] theorem jzH : jJ9 BB.P 14 = 24 := rfl
@[simp] theorem kE6 : jJ9 Tryz.prog 15 = 8 := rfl
@[simp] theorem jwF : jJ9 BB.P 15 = 8 := rfl
@[simp] theorem kD3 : jJ9 Tryz.prog 16 = 8 := rfl
@[simp] theorem jy1 : jJ9 BB.P 16 = 8 := rfl
@[simp] theorem kEY : jJ9 Tryz.prog 17 = 8 := rfl
@[simp] theorem jyM : jJ9 BB.P 17 = 8 := rfl
@[simp] theorem kFF : jJ9 Tryz.prog 18 = 8 := rfl
@[simp] theorem jzM : jJ9 BB.P 18 = 8 := rfl
@[simp] theorem kC9 : jJ9 Tryz.prog 19 = 8 := rfl
@[simp] theorem kAK : jJ9 BB.P 19 = 8 := rfl
@[simp] theorem kF8 : jJ9 Tryz.prog 20 = 16 := rfl
@[simp] theorem jyX : jJ9 BB.P 20 = 16 := rfl
@[simp] theorem bytes21 : jJ9 Tryz.prog 21 = 4 := rfl
@[simp] theorem jwC : jJ9 BB.P 21 = 4 := rfl
@[simp] theorem kFS : jJ9 Tryz.prog 22 = 24 := rfl
@[simp] theorem jzQ : jJ9 BB.P 22 = 24 := rfl
@[simp] theorem bytes23 : jJ9 Tryz.prog 23 = 24 := rfl
@[simp] theorem jz8 : jJ9 BB.P 23 = 24 := rfl
@[simp] theorem kDT : jJ9 Tryz.prog 24 = 24 := rfl
@[simp] theorem jxD : jJ9 BB.P 24 = 24 := rfl
@[simp] theorem bytes25 : jJ9 Tryz.prog 25 = 24 := rfl
@[simp] theorem jwL : jJ9 BB.P 25 = 24 := rfl
@[simp] theorem bytes26 : jJ9 Tryz.prog 26 = 24 := rfl
@[simp] theorem jx4 : jJ9 BB.P 26 = 24 := rfl
@[simp] theorem bytes27 : jJ9 Tryz.prog 27 = 88 := rfl
@[simp] theorem jyG : jJ9 BB.P 27 = 88 := rfl
@[simp] theorem bytes28 : jJ9 Tryz.prog 28 = 88 := rfl
@[simp] theorem kCQ : jJ9 BB.P 28 = 88 := rfl
@[simp] theorem kGD : jJ9 Tryz.prog 29 = 8 := rfl
@[simp] theorem kBR : jJ9 BB.P 29 = 8 := rfl
@[simp] theorem bytes30 : jJ9 Tryz.prog 30 = 8 := rfl
@[simp] theorem kAV : jJ9 BB.P 30 = 8 := rfl
@[simp] theorem kDR : jJ9 Tryz.prog 31 = 8 := rfl
@[simp] theorem jw3 : jJ9 BB.P 31 = 8 := rfl
@[simp] theorem kDW : jJ9 Tryz.prog 32 = 24 := rfl
@[simp] theorem kBF : jJ9 BB.P 32 = 24 := rfl
@[simp] theorem kDG : jJ9 Tryz.prog 33 = 8 := rfl
@[simp] theorem kBL : jJ9 BB.P 33 = 8 := rfl
@[simp] theorem kFP : jJ9 Tryz.prog 34 = 8 := rfl
@[simp] theorem jyH : jJ9 BB.P 34 = 8 := rfl
@[simp] theorem kEC : jJ9 Tryz.prog 35 = 8 := rfl
@[simp] theorem kAA : jJ9 BB.P 35 = 8 := rfl
@[simp] theorem kDZ : jJ9 Tryz.prog 36 = 8 := rfl
@[simp] theorem jvK : jJ9 BB.P 36 = 8 := rfl
@[simp] theorem kEH : jJ9 Tryz.prog 37 = 8 := rfl
@[simp] theorem kAF : jJ9 BB.P 37 = 8 := rfl
@[simp] theorem kD6 : jJ9 Tryz.prog 38 = 8 := rfl
@[simp] theorem jzW : jJ9 BB.P 38 = 8 := rfl
@[simp] theorem kF0 : jJ9 Tryz.prog 39 = 8 := rfl
@[simp] theorem jwO : jJ9 BB.P 39 = 8 := rfl
@[simp] theorem kE5 : jJ9 Tryz.prog 40 = 8 := rfl
@[simp] theorem kCA : jJ9 BB.P 40 = 8 := rfl
@[simp] theorem kEB : jJ9 Tryz.prog 41 = 8 := rfl
@[simp] theorem kB7 : jJ9 BB.P 41 = 8 := rfl
@[simp] theorem kDN : jJ9 Tryz.prog 42 = 8 := rfl
@[simp] theorem jz2 : jJ9 BB.P 42 = 8 := rfl
@[simp] theorem kDK : jJ9 Tryz.prog 43 = 8 := rfl
@[simp] theorem kBP : jJ9 BB.P 43 = 8 := rfl
@[simp] theorem kFM : jJ9 Tryz.prog 44 = 8 := rfl
@[simp] theorem kC5 : jJ9 BB.P 44 = 8 := rfl
@[simp] theorem kDF : jJ9 Tryz.prog 45 = 8 := rfl
@[simp] theorem jxA : jJ9 BB.P 45 = 8 := rfl
@[simp] theorem kDA : jJ9 Tryz.prog 46 = 8 := rfl
@[simp] theorem kBN : jJ9 BB.P 46 = 8 := rfl
@[simp] theorem kFT : jJ9 Tryz.prog 47 = 24 := rfl
@[simp] theorem jzY : jJ9 BB.P 47 = 24 := rfl
@[simp] theorem kEZ : jJ9 Tryz.prog 48 = 104 := rfl
@[simp] theorem kAZ : jJ9 BB.P 48 = 104 := rfl
@[simp] theorem jbT : jJ9 Tryz.prog 49 = 104 := rfl
@[simp] theorem jXL : jJ9 BB.P 49 = 104 := rfl
@[simp] theorem kES : jJ9 Tryz.prog 50 = 8 := rfl
@[simp] theorem jzZ : jJ9 BB.P 50 = 8 := rfl
@[simp] theorem kDH : jJ9 Tryz.prog 51 = 8 := rfl
@[simp] theorem jxS : jJ9 BB.P 51 = 8 := rfl
@[simp] theorem kFH : jJ9 Tryz.prog 52 = 8 := rfl
@[simp] theorem jzA : jJ9 BB.P 52 = 8 := rfl
@[simp] theorem kEJ : jJ9 Tryz.prog 53 = 32 := rfl
@[simp] theorem jvT : jJ9 BB.P 53 = 32 := rfl
@[simp] theorem jaY : jJ9 Tryz.prog 54 = 32 := rfl
@[simp] theorem jXE : jJ9 BB.P 54 = 32 := rfl
@[simp] theorem kE7 : jJ9 Tryz.prog 55 = 8 := rfl
@[simp] theorem jx9 : jJ9 BB.P 55 = 8 := rfl
@[simp] theorem kER : jJ9 Tryz.prog 56 = 8 := rfl
@[simp] theorem jv6 : jJ9 BB.P 56 = 8 := rfl
@[simp] theorem kFJ : jJ9 Tryz.prog 57 = 8 := rfl
@[simp] theorem kCR : jJ9 BB.P 57 = 8 := rfl
@[simp] theorem kEX : jJ9 Tryz.prog 58 = 8 := rfl
@[simp] theorem jxX : jJ9 BB.P 58 = 8 := rfl
@[simp] theorem kET : jJ9 Tryz.prog 59 = 8 := rfl
@[simp] theorem kCB : jJ9 BB.P 59 = 8 := rfl
@[simp] theorem kFO : jJ9 Tryz.prog 60 = 8 := rfl
@[simp] theorem jv2 : jJ9 BB.P 60 = 8 := rfl
@[simp] theorem kFZ : jJ9 Tryz.prog 61 = 8 := rfl
@[simp] theorem jv0 : jJ9 BB.P 61 = 8 := rfl
@[simp] theorem kFE : jJ9 Tryz.prog 62 = 8 := rfl
@[simp] theorem jyJ : jJ9 BB.P 62 = 8 := rfl
@[simp] theorem kEM : jJ9 Tryz.prog 63 = 8 := rfl
@[simp] theorem kCH : jJ9 BB.P 63 = 8 := rfl
@[simp] theorem kDV : jJ9 Tryz.prog 64 = 8 := rfl
@[simp] theorem jyB : jJ9 BB.P 64 = 8 := rfl
@[simp] theorem kD0 : jJ9 Tryz.prog 65 = 24 := rfl
@[simp] theorem jyV : jJ9 BB.P 65 = 24 := rfl
@[simp] theorem kD9 : jJ9 Tryz.prog 66 = 8 := rfl
@[simp] theorem kAC : jJ9 BB.P 66 = 8 := rfl
@[simp] theorem kGE : jJ9 Tryz.prog 67 = 8 := rfl
@[simp] theorem kC3 : jJ9 BB.P 67 = 8 := rfl
@[simp] theorem kE0 : jJ9 Tryz.prog 68 = 56 := rfl
@[simp] theorem kAQ : jJ9 BB.P 68 = 56 := rfl
@[simp] theorem kFR : jJ9 Tryz.prog 69 = 56 := rfl
@[simp] theorem jv8 : jJ9 BB.P 69 = 56 := rfl
@[simp] theorem kEO : jJ9 Tryz.prog 70 = 8 := rfl
@[simp] theorem kCM : jJ9 BB.P 70 = 8 := rfl
@[simp] theorem kF2 : jJ9 Tryz.prog 71 = 24 := rfl
@[simp] theorem kCX : jJ9 BB.P 71 = 24 := rfl
@[simp] theorem kDI : jJ9 Tryz.prog 72 = 104 := rfl
@[simp] theorem jzT : jJ9 BB.P 72 = 104 := rfl
@[simp] theorem kE8 : jJ9 Tryz.prog 73 = 104 := rfl
@[simp] theorem jx6 : jJ9 BB.P 73 = 104 := rfl
@[simp] theorem kFG : jJ9 Tryz.prog 74 = 8 := rfl
@[simp] theorem jyR : jJ9 BB.P 74 = 8 := rfl
@[simp] theorem kDL : jJ9 Tryz.prog 75 = 8 := rfl
@[simp] theorem kCI : jJ9 BB.P 75 = 8 := rfl
@[simp] theorem kF9 : jJ9 Tryz.prog 76 = 8 := rfl
@[simp] theorem kAE : jJ9 BB.P 76 = 8 := rfl
@[simp] theorem kFI : jJ9 Tryz.prog 78 = 8 := rfl
@[simp] theorem jzB : jJ9 BB.P 78 = 8 := rfl
@[simp] theorem kDX : jJ9 Tryz.prog 79 = 24 := rfl
@[simp] theorem kBX : jJ9 BB.P 79 = 24 := rfl
@[simp] theorem kEF : jJ9 Tryz.prog 80 = 8 := rfl
@[simp] theorem jvH : jJ9 BB.P 80 = 8 := rfl
@[simp] theorem kEP : jJ9 Tryz.prog 81 = 8 := rfl
@[simp] theorem jxT : jJ9 BB.P 81 = 8 := rfl
@[simp] theorem kD8 : jJ9 Tryz.prog 82 = 8 := rfl
@[simp] theorem kCP : jJ9 BB.P 82 = 8 := rfl
@[simp] theorem kEW : jJ9 Tryz.prog 83 = 16 := rfl
@[simp] theorem jzS : jJ9 BB.P 83 = 16 := rfl
@[simp] theorem kEN : jJ9 Tryz.prog 84 = 8 := rfl
@[simp] theorem jy8 : jJ9 BB.P 84 = 8 := rfl
@[simp] theorem kE3 : jJ9 Tryz.prog 85 = 8 := rfl
@[simp] theorem kBI : jJ9 BB.P 85 = 8 := rfl
@[simp] theorem kGB : jJ9 Tryz.prog 86 = 8 := rfl
@[simp] theorem kBV : jJ9 BB.P 86 = 8 := rfl
@[simp] theorem kFB : jJ9 Tryz.prog 87 = 8 := rfl
@[simp] theorem jz4 : jJ9 BB.P 87 = 8 := rfl
@[simp] theorem kDM : jJ9 Tryz.prog 88 = 8 := rfl
@[simp] theorem jxG : jJ9 BB.P 88 = 8 := rfl
@[simp] theorem kE4 : jJ9 Tryz.prog 89 = 8 := rfl
@[simp] theorem kBU : jJ9 BB.P 89 = 8 := rfl
@[simp] theorem kF3 : jJ9 Tryz.prog 90 = 8 := rfl
@[simp] theorem jzU : jJ9 BB.P 90 = 8 := rfl
@[simp] theorem kF7 : jJ9 Tryz.prog 91 = 8 := rfl
@[simp] theorem jvP : jJ9 BB.P 91 = 8 := rfl
@[simp] theorem kFA : jJ9 Tryz.prog 92 = 8 := rfl
@[simp] theorem jv1 : jJ9 BB.P 92 = 8 := rfl
@[simp] theorem kGI : jJ9 Tryz.prog 93 = 8 := rfl
@[simp] theorem kBT : jJ9 BB.P 93 = 8 := rfl
@[simp] theorem kDU : jJ9 Tryz.prog 94 = 8 := rfl
@[simp] theorem jvY : jJ9 BB.P 94 = 8 := rfl
@[simp] theorem kFU : jJ9 Tryz.prog 95 = 24 := rfl
@[simp] theorem jyZ : jJ9 BB.P 95 = 24 := rfl
@[simp] theorem kD4 : jJ9 Tryz.prog 96 = 8 := rfl
@[simp] theorem kBM : jJ9 BB.P 96 = 8 := rfl
@[simp] theorem kDS : jJ9 Tryz.prog 97 = 8 := rfl
@[simp] theorem kC4 : jJ9 BB.P 97 = 8 := rfl
@[simp] theorem kGJ : jJ9 Tryz.prog 98 = 8 := rfl
@[simp] theorem kCZ : jJ9 BB.P 98 = 8 := rfl
@[simp] theorem kD7 : jJ9 Tryz.prog 99 = 8 := rfl
@[simp] theorem jv3 : jJ9 BB.P 99 = 8 := rfl
@[simp] theorem jz5 : jJ9 Tryz.prog 100 = 8 := rfl
@[simp] theorem jrB : jJ9 BB.P 100 = 8 := rfl
@[simp] theorem jw7 : jJ9 Tryz.prog 102 = 8 := rfl
@[simp] theorem jpM : jJ9 BB.P 102 = 8 := rfl
@[simp] theorem kB6 : jJ9 Tryz.prog 103 = 8 := rfl
@[simp] theorem jtS : jJ9 BB.P 103 = 8 := rfl
@[simp] theorem jwY : jJ9 Tryz.prog 104 = 8 := rfl
@[simp] theorem jqS : jJ9 BB.P 104 = 8 := rfl
@[simp] theorem jy0 : jJ9 Tryz.prog 105 = 8 := rfl
@[simp] theorem jpX : jJ9 BB.P 105 = 8 := rfl
@[simp] theorem kCK : jJ9 Tryz.prog 106 = 8 := rfl
@[simp] theorem jqF : jJ9 BB.P 106 = 8 := rfl
@[simp] theorem jzK : jJ9 Tryz.prog 107 = 8 := rfl
@[simp] theorem juV : jJ9 BB.P 107 = 8 := rfl
@[simp] theorem jwQ : jJ9 Tryz.prog 108 = 8 := rfl
@[simp] theorem jq7 : jJ9 BB.P 108 = 8 := rfl
@[simp] theorem jzP : jJ9 Tryz.prog 109 = 8 := rfl
@[simp] theorem jqG : jJ9 BB.P 109 = 8 := rfl
@[simp] theorem jyF : jJ9 Tryz.prog 110 = 8 := rfl
@[simp] theorem jrL : jJ9 BB.P 110 = 8 := rfl
@[simp] theorem jwN : jJ9 Tryz.prog 111 = 8 := rfl
@[simp] theorem jqX : jJ9 BB.P 111 = 8 := rfl
@[simp] theorem jw9 : jJ9 Tryz.prog 112 = 8 := rfl
@[simp] theorem jqD : jJ9 BB.P 112 = 8 := rfl
@[simp] theorem jxR : jJ9 Tryz.prog 113 = 8 := rfl
@[simp] theorem jsO : jJ9 BB.P 113 = 8 := rfl
@[simp] theorem kC8 : jJ9 Tryz.prog 114 = 8 := rfl
@[simp] theorem juI : jJ9 BB.P 114 = 8 := rfl
@[simp] theorem jvV : jJ9 Tryz.prog 115 = 8 := rfl
@[simp] theorem jsE : jJ9 BB.P 115 = 8 := rfl
@[simp] theorem kB9 : jJ9 Tryz.prog 116 = 8 := rfl
@[simp] theorem jvG : jJ9 BB.P 116 = 8 := rfl
@[simp] theorem jz9 : jJ9 Tryz.prog 117 = 8 := rfl
@[simp] theorem jrQ : jJ9 BB.P 117 = 8 := rfl
@[simp] theorem jwU : jJ9 Tryz.prog 118 = 48 := rfl
@[simp] theorem js6 : jJ9 BB.P 118 = 48 := rfl
@[simp] theorem kB4 : jJ9 Tryz.prog 119 = 48 := rfl
@[simp] theorem jvD : jJ9 BB.P 119 = 48 := rfl
@[simp] theorem jvZ : jJ9 Tryz.prog 120 = 8 := rfl
@[simp] theorem js1 : jJ9 BB.P 120 = 8 := rfl
@[simp] theorem jxY : jJ9 Tryz.prog 121 = 8 := rfl
@[simp] theorem jtV : jJ9 BB.P 121 = 8 := rfl
@[simp] theorem kBC : jJ9 Tryz.prog 122 = 8 := rfl
@[simp] theorem jsK : jJ9 BB.P 122 = 8 := rfl
@[simp] theorem jvJ : jJ9 Tryz.prog 123 = 136 := rfl
@[simp] theorem jsT : jJ9 BB.P 123 = 136 := rfl
@[simp] theorem kBY : jJ9 Tryz.prog 124 = 136 := rfl
@[simp] theorem jpP : jJ9 BB.P 124 = 136 := rfl
@[simp] theorem jxO : jJ9 Tryz.prog 126 = 8 := rfl
@[simp] theorem jt9 : jJ9 BB.P 126 = 8 := rfl
@[simp] theorem jy9 : jJ9 Tryz.prog 127 = 8 := rfl
@[simp] theorem ju4 : jJ9 BB.P 127 = 8 := rfl
@[simp] theorem kAY : jJ9 Tryz.prog 128 = 8 := rfl
@[simp] theorem jpK : jJ9 BB.P 128 = 8 := rfl
@[simp] theorem kBE : jJ9 Tryz.prog 129 = 8 := rfl
@[simp] theorem jt7 : jJ9 BB.P 129 = 8 := rfl
@[simp] theorem jwV : jJ9 Tryz.prog 130 = 8 := rfl
@[simp] theorem juR : jJ9 BB.P 130 = 8 := rfl
@[simp] theorem jvM : jJ9 Tryz.prog 131 = 32 := rfl
@[simp] theorem jr1 : jJ9 BB.P 131 = 32 := rfl
@[simp] theorem jy5 : jJ9 Tryz.prog 132 = 32 := rfl
@[simp] theorem jr9 : jJ9 BB.P 132 = 32 := rfl
@[simp] theorem jxK : jJ9 Tryz.prog 133 = 8 := rfl
@[simp] theorem jtY : jJ9 BB.P 133 = 8 := rfl
@[simp] theorem kAU : jJ9 Tryz.prog 134 = 8 := rfl
@[simp] theorem ju9 : jJ9 BB.P 134 = 8 := rfl
@[simp] theorem jw6 : jJ9 Tryz.prog 135 = 8 := rfl
@[simp] theorem jp5 : jJ9 BB.P 135 = 8 := rfl
@[simp] theorem jxI : jJ9 Tryz.prog 136 = 8 := rfl
@[simp] theorem jo8 : jJ9 BB.P 136 = 8 := rfl
@[simp] theorem kB5 : jJ9 Tryz.prog 137 = 8 := rfl
@[simp] theorem jqN : jJ9 BB.P 137 = 8 := rfl
@[simp] theorem jvW : jJ9 Tryz.prog 138 = 8 := rfl
@[simp] theorem jtT : jJ9 BB.P 138 = 8 := rfl
@[simp] theorem kCY : jJ9 Tryz.prog 139 = 8 := rfl
@[simp] theorem jrP : jJ9 BB.P 139 = 8 := rfl
@[simp] theorem jvN : jJ9 Tryz.prog 140 = 8 := rfl
@[simp] theorem jtQ : jJ9 BB.P 140 = 8 := rfl
@[simp] theorem jx0 : jJ9 Tryz.prog 141 = 8 := rfl
@[simp] theorem jrU : jJ9 BB.P 141 = 8 := rfl
@[simp] theorem kA7 : jJ9 Tryz.prog 142 = 8 := rfl
@[simp] theorem jvC : jJ9 BB.P 142 = 8 := rfl
@[simp] theorem kAS : jJ9 Tryz.prog 143 = 8 := rfl
@[simp] theorem jpF : jJ9 BB.P 143 = 8 := rfl
@[simp] theorem jwX : jJ9 Tryz.prog 144 = 8 := rfl
@[simp] theorem jr8 : jJ9 BB.P 144 = 8 := rfl
@[simp] theorem jyD : jJ9 Tryz.prog 145 = 8 := rfl
@[simp] theorem juW : jJ9 BB.P 145 = 8 := rfl
@[simp] theorem kCF : jJ9 Tryz.prog 146 = 8 := rfl
@[simp] theorem jpI : jJ9 BB.P 146 = 8 := rfl
@[simp] theorem jyI : jJ9 Tryz.prog 147 = 8 := rfl
@[simp] theorem jt0 : jJ9 BB.P 147 = 8 := rfl
@[simp] theorem jx1 : jJ9 Tryz.prog 148 = 8 := rfl
@[simp] theorem jtU : jJ9 BB.P 148 = 8 := rfl
@[simp] theorem jyY : jJ9 Tryz.prog 149 = 16 := rfl
@[simp] theorem jsX : jJ9 BB.P 149 = 16 := rfl
@[simp] theorem jvO : jJ9 Tryz.prog 150 = 16 := rfl
@[simp] theorem jsP : jJ9 BB.P 150 = 16 := rfl
@[simp] theorem jvU : jJ9 Tryz.prog 152 = 8 := rfl
@[simp] theorem jsI : jJ9 BB.P 152 = 8 := rfl
@[simp] theorem jwM : jJ9 Tryz.prog 153 = 8 := rfl
@[simp] theorem jp9 : jJ9 BB.P 153 = 8 := rfl
@[simp] theorem kAL : jJ9 Tryz.prog 154 = 8 := rfl
@[simp] theorem ju6 : jJ9 BB.P 154 = 8 := rfl
@[simp] theorem jy4 : jJ9 Tryz.prog 155 = 8 := rfl
@[simp] theorem js9 : jJ9 BB.P 155 = 8 := rfl
@[simp] theorem jw5 : jJ9 Tryz.prog 156 = 8 := rfl
@[simp] theorem jq9 : jJ9 BB.P 156 = 8 := rfl
@[simp] theorem kAR : jJ9 Tryz.prog 157 = 8 := rfl
@[simp] theorem ju1 : jJ9 BB.P 157 = 8 := rfl
@[simp] theorem kAG : jJ9 Tryz.prog 158 = 8 := rfl
@[simp] theorem jrJ : jJ9 BB.P 158 = 8 := rfl
@[simp] theorem jv7 : jJ9 Tryz.prog 159 = 8 := rfl
@[simp] theorem jtR : jJ9 BB.P 159 = 8 := rfl
@[simp] theorem kBS : jJ9 Tryz.prog 160 = 8 := rfl
@[simp] theorem jtW : jJ9 BB.P 160 = 8 := rfl
@[simp] theorem jwZ : jJ9 Tryz.prog 161 = 16 := rfl
@[simp] theorem jqU : jJ9 BB.P 161 = 16 := rfl
@[simp] theorem jyL : jJ9 Tryz.prog 162 = 16 := rfl
@[simp] theorem jtF : jJ9 BB.P 162 = 16 := rfl
@[simp] theorem jwG : jJ9 Tryz.prog 163 = 72 := rfl
@[simp] theorem jpA : jJ9 BB.P 163 = 72 := rfl
@[simp] theorem kC2 : jJ9 Tryz.prog 164 = 72 := rfl
@[simp] theorem juJ : jJ9 BB.P 164 = 72 := rfl
@[simp] theorem jwE : jJ9 Tryz.prog 165 = 8 := rfl
@[simp] theorem jpY : jJ9 BB.P 165 = 8 := rfl
@[simp] theorem kBG : jJ9 Tryz.prog 166 = 8 := rfl
@[simp] theorem jpG : jJ9 BB.P 166 = 8 := rfl
@[simp] theorem kAJ : jJ9 Tryz.prog 167 = 8 := rfl
@[simp] theorem ju0 : jJ9 BB.P 167 = 8 := rfl
@[simp] theorem jwB : jJ9 Tryz.prog 169 = 8 := rfl
@[simp] theorem jvE : jJ9 BB.P 169 = 8 := rfl
@[simp] theorem kBK : jJ9 Tryz.prog 170 = 8 := rfl
@[simp] theorem jt6 : jJ9 BB.P 170 = 8 := rfl
@[simp] theorem kCE : jJ9 Tryz.prog 171 = 16 := rfl
@[simp] theorem jtH : jJ9 BB.P 171 = 16 := rfl
@[simp] theorem jzG : jJ9 Tryz.prog 172 = 16 := rfl
@[simp] theorem jtI : jJ9 BB.P 172 = 16 := rfl
@[simp] theorem jx8 : jJ9 Tryz.prog 173 = 24 := rfl
@[simp] theorem jt1 : jJ9 BB.P 173 = 24 := rfl
@[simp] theorem jxP : jJ9 Tryz.prog 174 = 8 := rfl
@[simp] theorem jtO : jJ9 BB.P 174 = 8 := rfl
@[simp] theorem kAT : jJ9 Tryz.prog 175 = 8 := rfl
@[simp] theorem jtJ : jJ9 BB.P 175 = 8 := rfl
@[simp] theorem kAW : jJ9 Tryz.prog 176 = 8 := rfl
@[simp] theorem jt4 : jJ9 BB.P 176 = 8 := rfl
@[simp] theorem jwH : jJ9 Tryz.prog 177 = 8 := rfl
@[simp] theorem jtD : jJ9 BB.P 177 = 8 := rfl
@[simp] theorem jzL : jJ9 Tryz.prog 178 = 24 := rfl
@[simp] theorem jqY : jJ9 BB.P 178 = 24 := rfl
@[simp] theorem kBZ : jJ9 Tryz.prog 179 = 8 := rfl
@[simp] theorem jsJ : jJ9 BB.P 179 = 8 := rfl
@[simp] theorem kAM : jJ9 Tryz.prog 180 = 8 := rfl
@[simp] theorem jsF : jJ9 BB.P 180 = 8 := rfl
@[simp] theorem jzX : jJ9 Tryz.prog 181 = 8 := rfl
@[simp] theorem js7 : jJ9 BB.P 181 = 8 := rfl
@[simp] theorem kCO : jJ9 Tryz.prog 182 = 8 := rfl
@[simp] theorem js8 : jJ9 BB.P 182 = 8 := rfl
@[simp] theorem jw0 : jJ9 Tryz.prog 183 = 8 := rfl
@[simp] theorem jtA : jJ9 BB.P 183 = 8 := rfl
@[simp] theorem jxH : jJ9 Tryz.prog 184 = 8 := rfl
@[simp] theorem juX : jJ9 BB.P 184 = 8 := rfl
@[simp] theorem kAO : jJ9 Tryz.prog 185 = 8 := rfl
@[simp] theorem jpV : jJ9 BB.P 185 = 8 := rfl
@[simp] theorem jx5 : jJ9 Tryz.prog 186 = 8 := rfl
@[simp] theorem jqH : jJ9 BB.P 186 = 8 := rfl
@[simp] theorem jwT : jJ9 Tryz.prog 187 = 8 := rfl
@[simp] theorem jr4 : jJ9 BB.P 187 = 8 := rfl
@[simp] theorem jyN : jJ9 Tryz.prog 188 = 8 := rfl
@[simp] theorem js2 : jJ9 BB.P 188 = 8 := rfl
@[simp] theorem jw8 : jJ9 Tryz.prog 189 = 8 := rfl
@[simp] theorem jvA : jJ9 BB.P 189 = 8 := rfl
@[simp] theorem kAB : jJ9 Tryz.prog 190 = 32 := rfl
@[simp] theorem ju2 : jJ9 BB.P 190 = 32 := rfl
@[simp] theorem kCU : jJ9 Tryz.prog 191 = 32 := rfl
@[simp] theorem jsM : jJ9 BB.P 191 = 32 := rfl
@[simp] theorem jz3 : jJ9 Tryz.prog 192 = 8 := rfl
@[simp] theorem jq4 : jJ9 BB.P 192 = 8 := rfl
@[simp] theorem kBW : jJ9 Tryz.prog 193 = 16 := rfl
@[simp] theorem jpE : jJ9 BB.P 193 = 16 := rfl
@[simp] theorem jxE : jJ9 Tryz.prog 194 = 16 := rfl
@[simp] theorem jpO : jJ9 BB.P 194 = 16 := rfl
@[simp] theorem jyS : jJ9 Tryz.prog 196 = 8 := rfl
@[simp] theorem jrR : jJ9 BB.P 196 = 8 := rfl
@[simp] theorem kCL : jJ9 Tryz.prog 197 = 8 := rfl
@[simp] theorem jpH : jJ9 BB.P 197 = 8 := rfl
@[simp] theorem kAX : jJ9 Tryz.prog 198 = 24 := rfl
@[simp] theorem jpL : jJ9 BB.P 198 = 24 := rfl
@[simp] theorem jxQ : jJ9 Tryz.prog 199 = 16 := rfl
@[simp] theorem jrY : jJ9 BB.P 199 = 16 := rfl
@[simp] theorem jxM : jJ9 Tryz.prog 200 = 16 := rfl
@[simp] theorem jtE : jJ9 BB.P 200 = 16 := rfl
@[simp] theorem kA6 : jJ9 Tryz.prog 201 = 8 := rfl
@[simp] theorem juZ : jJ9 BB.P 201 = 8 := rfl
@[simp] theorem jvI : jJ9 Tryz.prog 202 = 8 := rfl
@[simp] theorem jsH : jJ9 BB.P 202 = 8 := rfl
@[simp] theorem kA4 : jJ9 Tryz.prog 203 = 8 := rfl
@[simp] theorem jqR : jJ9 BB.P 203 = 8 := rfl
@[simp] theorem jwW : jJ9 Tryz.prog 204 = 8 := rfl
@[simp] theorem jsD : jJ9 BB.P 204 = 8 := rfl
@[simp] theorem kCJ : jJ9 Tryz.prog 205 = 8 := rfl
@[simp] theorem js4 : jJ9 BB.P 205 = 8 := rfl
@[simp] theorem jx2 : jJ9 Tryz.prog 206 = 8 := rfl
@[simp] theorem jrM : jJ9 BB.P 206 = 8 := rfl
@[simp] theorem jwS : jJ9 Tryz.prog 207 = 8 := rfl
@[simp] theorem jrX : jJ9 BB.P 207 = 8 := rfl
@[simp] theorem kCN : jJ9 Tryz.prog 208 = 8 := rfl
@[simp] theorem jqW : jJ9 BB.P 208 = 8 := rfl
@[simp] theorem jwP : jJ9 Tryz.prog 210 = 8 := rfl
@[simp] theorem ju7 : jJ9 BB.P 210 = 8 := rfl
@[simp] theorem jwI : jJ9 Tryz.prog 211 = 8 := rfl
@[simp] theorem jpJ : jJ9 BB.P 211 = 8 := rfl
@[simp] theorem jyQ : jJ9 Tryz.prog 212 = 8 := rfl
@[simp] theorem jq3 : jJ9 BB.P 212 = 8 := rfl
@[simp] theorem jv4 : jJ9 Tryz.prog 213 = 8 := rfl
@[simp] theorem juA : jJ9 BB.P 213 = 8 := rfl
@[simp] theorem jxB : jJ9 Tryz.prog 214 = 8 := rfl
@[simp] theorem jt3 : jJ9 BB.P 214 = 8 := rfl
@[simp] theorem jy2 : jJ9 Tryz.prog 215 = 8 := rfl
@[simp] theorem jqK : jJ9 BB.P 215 = 8 := rfl
@[simp] theorem jvS : jJ9 Tryz.prog 216 = 8 := rfl
@[simp] theorem jr3 : jJ9 BB.P 216 = 8 := rfl
@[simp] theorem jyE : jJ9 Tryz.prog 217 = 8 := rfl
@[simp] theorem jrT : jJ9 BB.P 217 = 8 := rfl
@[simp] theorem jzE : jJ9 Tryz.prog 219 = 8 := rfl
@[simp] theorem jsB : jJ9 BB.P 219 = 8 := rfl
@[simp] theorem jvR : jJ9 Tryz.prog 220 = 8 := rfl
@[simp] theorem jp3 : jJ9 BB.P 220 = 8 := rfl
@[simp] theorem jyA : jJ9 Tryz.prog 221 = 8 := rfl
@[simp] theorem juD : jJ9 BB.P 221 = 8 := rfl
@[simp] theorem jyC : jJ9 Tryz.prog 222 = 8 := rfl
@[simp] theorem jsW : jJ9 BB.P 222 = 8 := rfl
@[simp] theorem jyO : jJ9 Tryz.prog 223 = 8 := rfl
@[simp] theorem jqV : jJ9 BB.P 223 = 8 := rfl
@[simp] theorem jy6 : jJ9 Tryz.prog 224 = 8 := rfl
@[simp] theorem jqJ : jJ9 BB.P 224 = 8 := rfl
@[simp] theorem kAH : jJ9 Tryz.prog 225 = 8 := rfl
@[simp] theorem jtB : jJ9 BB.P 225 = 8 := rfl
@[simp] theorem jxZ : jJ9 Tryz.prog 226 = 8 := rfl
@[simp] theorem jpS : jJ9 BB.P 226 = 8 := rfl
@[simp] theorem kAN : jJ9 Tryz.prog 227 = 8 := rfl
@[simp] theorem js3 : jJ9 BB.P 227 = 8 := rfl
@[simp] theorem kB8 : jJ9 Tryz.prog 228 = 8 := rfl
@[simp] theorem jpT : jJ9 BB.P 228 = 8 := rfl
@[simp] theorem jzC : jJ9 Tryz.prog 229 = 8 := rfl
@[simp] theorem jt8 : jJ9 BB.P 229 = 8 := rfl
@[simp] theorem kBD : jJ9 Tryz.prog 230 = 8 := rfl
@[simp] theorem juT : jJ9 BB.P 230 = 8 := rfl
@[simp] theorem jxV : jJ9 Tryz.prog 231 = 4 := rfl
@[simp] theorem jsS : jJ9 BB.P 231 = 4 := rfl
@[simp] theorem jzR : jJ9 Tryz.prog 233 = 8 := rfl
@[simp] theorem jtM : jJ9 BB.P 233 = 8 := rfl
@[simp] theorem jvL : jJ9 Tryz.prog 234 = 8 := rfl
@[simp] theorem jtZ : jJ9 BB.P 234 = 8 := rfl
@[simp] theorem kC7 : jJ9 Tryz.prog 235 = 8 := rfl
@[simp] theorem jqM : jJ9 BB.P 235 = 8 := rfl
@[simp] theorem jw4 : jJ9 Tryz.prog 236 = 8 := rfl
@[simp] theorem jrS : jJ9 BB.P 236 = 8 := rfl
@[simp] theorem jyW : jJ9 Tryz.prog 237 = 8 := rfl
@[simp] theorem juB : jJ9 BB.P 237 = 8 := rfl
@[simp] theorem jzN : jJ9 Tryz.prog 238 = 8 := rfl
@[simp] theorem jsQ : jJ9 BB.P 238 = 8 := rfl
@[simp] theorem kAD : jJ9 Tryz.prog 240 = 8 := rfl
@[simp] theorem jsV : jJ9 BB.P 240 = 8 := rfl
@[simp] theorem kAI : jJ9 Tryz.prog 242 = 8 := rfl
@[simp] theorem jqO : jJ9 BB.P 242 = 8 := rfl
@[simp] theorem kA5 : jJ9 Tryz.prog 243 = 8 := rfl
@[simp] theorem jq1 : jJ9 BB.P 243 = 8 := rfl
@[simp] theorem jx3 : jJ9 Tryz.prog 244 = 8 := rfl
@[simp] theorem jsU : jJ9 BB.P 244 = 8 := rfl
@[simp] theorem kCT : jJ9 Tryz.prog 245 = 8 := rfl
@[simp] theorem jpR : jJ9 BB.P 245 = 8 := rfl
@[simp] theorem jwD : jJ9 Tryz.prog 246 = 8 := rfl
@[simp] theorem jrF : jJ9 BB.P 246 = 8 := rfl
@[simp] theorem kA9 : jJ9 Tryz.prog 247 = 8 := rfl
@[simp] theorem jt2 : jJ9 BB.P 247 = 8 := rfl
@[simp] theorem kCV : jJ9 Tryz.prog 248 = 8 := rfl
@[simp] theorem jp1 : jJ9 BB.P 248 = 8 := rfl
@[simp] theorem jv5 : jJ9 Tryz.prog 249 = 8 := rfl
@[simp] theorem jpU : jJ9 BB.P 249 = 8 := rfl
@[simp] theorem jwA : jJ9 Tryz.prog 250 = 8 := rfl
@[simp] theorem jp6 : jJ9 BB.P 250 = 8 := rfl
@[simp] theorem jwJ : jJ9 Tryz.prog 251 = 8 := rfl
@[simp] theorem jo7 : jJ9 BB.P 251 = 8 := rfl
@[simp] theorem jz0 : jJ9 Tryz.prog 252 = 8 := rfl
@[simp] theorem jsR : jJ9 BB.P 252 = 8 := rfl
@[simp] theorem kBO : jJ9 Tryz.prog 253 = 8 := rfl
@[simp] theorem jo5 : jJ9 BB.P 253 = 8 := rfl
@[simp] theorem jzJ : jJ9 Tryz.prog 255 = 8 := rfl
@[simp] theorem js5 : jJ9 BB.P 255 = 8 := rfl
@[simp] theorem jxL : jJ9 Tryz.prog 256 = 8 := rfl
@[simp] theorem jqL : jJ9 BB.P 256 = 8 := rfl
@[simp] theorem kC1 : jJ9 Tryz.prog 257 = 8 := rfl
@[simp] theorem jp4 : jJ9 BB.P 257 = 8 := rfl
@[simp] theorem jwK : jJ9 Tryz.prog 258 = 8 := rfl
@[simp] theorem juP : jJ9 BB.P 258 = 8 := rfl
@[simp] theorem kAP : jJ9 Tryz.prog 259 = 8 := rfl
@[simp] theorem juK : jJ9 BB.P 259 = 8 := rfl
@[simp] theorem kCC : jJ9 Tryz.prog 260 = 8 := rfl
@[simp] theorem jqE : jJ9 BB.P 260 = 8 := rfl
@[simp] theorem kC6 : jJ9 Tryz.prog 261 = 8 := rfl
@[simp] theorem jrW : jJ9 BB.P 261 = 8 := rfl
@[simp] theorem jvX : jJ9 Tryz.prog 263 = 8 := rfl
@[simp] theorem jp2 : jJ9 BB.P 263 = 8 := rfl
@[simp] theorem jwR : jJ9 Tryz.prog 264 = 8 := rfl
@[simp] theorem jr2 : jJ9 BB.P 264 = 8 := rfl
@[simp] theorem jyT : jJ9 Tryz.prog 265 = 8 := rfl
@[simp] theorem juQ : jJ9 BB.P 265 = 8 := rfl
@[simp] theorem jxW : jJ9 Tryz.prog 267 = 8 := rfl
@[simp] theorem jpB : jJ9 BB.P 267 = 8 := rfl
@[simp] theorem kCS : jJ9 Tryz.prog 268 = 8 := rfl
@[simp] theorem jtG : jJ9 BB.P 268 = 8 := rfl
@[simp] theorem jz6 : jJ9 Tryz.prog 269 = 8 := rfl
@[simp] theorem juN : jJ9 BB.P 269 = 8 := rfl
@[simp] theorem jz7 : jJ9 Tryz.prog 270 = 8 := rfl
@[simp] theorem jq5 : jJ9 BB.P 270 = 8 := rfl
@[simp] theorem jzD : jJ9 Tryz.prog 271 = 8 := rfl
@[simp] theorem jq6 : jJ9 BB.P 271 = 8 := rfl
@[simp] theorem kBH : jJ9 Tryz.prog 272 = 8 := rfl
@[simp] theorem jrD : jJ9 BB.P 272 = 8 := rfl
@[simp] theorem jyP : jJ9 Tryz.prog 273 = 8 := rfl
@[simp] theorem jsC : jJ9 BB.P 273 = 8 := rfl
@[simp] theorem jxC : jJ9 Tryz.prog 274 = 8 := rfl
@[simp] theorem jpQ : jJ9 BB.P 274 = 8 := rfl
@[simp] theorem jw1 : jJ9 Tryz.prog 275 = 8 := rfl
@[simp] theorem jrK : jJ9 BB.P 275 = 8 := rfl
@[simp] theorem jyK : jJ9 Tryz.prog 277 = 8 := rfl
@[simp] theorem jtP : jJ9 BB.P 277 = 8 := rfl
@[simp] theorem jxJ : jJ9 Tryz.prog 278 = 8 := rfl
@[simp] theorem ju3 : jJ9 BB.P 278 = 8 := rfl
@[simp] theorem kA0 : jJ9 Tryz.prog 280 = 8 := rfl
@[simp] theorem jpZ : jJ9 BB.P 280 = 8 := rfl
@[simp] theorem jvQ : jJ9 Tryz.prog 281 = 40 := rfl
@[simp] theorem jqC : jJ9 BB.P 281 = 40 := rfl
@[simp] theorem kA8 : jJ9 Tryz.prog 282 = 40 := rfl
@[simp] theorem juH : jJ9 BB.P 282 = 40 := rfl
@[simp] theorem kBB : jJ9 Tryz.prog 286 = 8 := rfl
@[simp] theorem jpD : jJ9 BB.P 286 = 8 := rfl
@[simp] theorem kBQ : jJ9 Tryz.prog 287 = 1 := rfl
@[simp] theorem jo9 : jJ9 BB.P 287 = 1 := rfl
@[simp] theorem kBJ : jJ9 Tryz.prog 288 = 1 := rfl
@[simp] theorem juU : jJ9 BB.P 288 = 1 := rfl
@[simp] theorem jy7 : jJ9 Tryz.prog 289 = 8 := rfl
@[simp] theorem jtL : jJ9 BB.P 289 = 8 := rfl
@[simp] theorem kC0 : jJ9 Tryz.prog 290 = 4 := rfl
@[simp] theorem juE : jJ9 BB.P 290 = 4 := rfl
@[simp] theorem kCG : jJ9 Tryz.prog 291 = 4 := rfl
@[simp] theorem jqA : jJ9 BB.P 291 = 4 := rfl
@[simp] theorem jy3 : jJ9 Tryz.prog 292 = 48 := rfl
@[simp] theorem jqB : jJ9 BB.P 292 = 48 := rfl
@[simp] theorem kCW : jJ9 Tryz.prog 293 = 48 := rfl
@[simp] theorem juY : jJ9 BB.P 293 = 48 := rfl
theorem jrC (x : UInt8) : 0 ≤ (x.toNat : Int) ∧ (x.toNat : Int) ≤ 255 := by have := x.toNat_lt;omega
theorem obA {p : Prop} (h : p := by first|exact Ob.mk (jrC _)|(refine Ob.mk ?_;first|exact True.intro|assumption|omega|(simp only [ZA,ZB,ZC,ZD,ZE,ZF,ZG,ZH,ZI,ZJ,ZK,ZL,ZM,ZN,ZO,Int.toNat_natCast,UInt8.ofNat_toNat,cast_eq] at *;omega)|(show (_:Int) = _;omega)|(show jbG _ = _;with_unfolding_all rfl)|((first|show (_:Nat) ≤ _|show (_:Nat) ≤ _ ∧ (_:Nat) ≤ _|show (_:Int) ≤ _ ∧ (_:Int) ≤ _ ∧ (_:Int) ≤ _ ∧ (_:Int) ≤ _);(simp <;> omega)))|(show (_:Int) = _;omega)|(show jbG _ = _;with_unfolding_all rfl)|((first|show (_:Nat) ≤ _|show (_:Nat) ≤ _ ∧ (_:Nat) ≤ _|show (_:Int) ≤ _ ∧ (_:Int) ≤ _ ∧ (_:Int) ≤ _ ∧ (_:Int) ≤ _);(simp <;> omega))) : p := h
theorem vcA {p : Prop} (h : p := by (repeat' ((conv => whnf);first|(with_reducible first|rfl|exact jKE|exact jKD)|exact True.intro|intro _|refine WA ?_ ?_|refine WF ?_|refine W1 rfl ?_ ?_|refine W2 rfl ?_ ?_|refine W3 rfl ?_ ?_|refine W4 ?_ ?_|refine W5 rfl ?_ ?_|refine W6 ?_ ?_|refine WN ?_|refine X1 (W1 rfl ?_ ?_)|refine X1 (W2 rfl ?_ ?_)|refine X2 (W7 rfl ?_ ?_)|refine X3 (W7 rfl ?_ ?_)|refine X4 (W7 rfl ?_ ?_)|refine X5 (W7 rfl ?_ ?_)));(all_goals (try (conv => whnf)));(all_goals (try first|exact obA|refine Ob.mk ?_));(all_goals (try rfl))) : p := h
end Go.Vc

namespace Go.Vc.W
open Go.Proofs
def isSp (c : Int) : Bool := c == 9 || c == 10 || c == 12 || c == 13 || c == 32
set_option maxRecDepth 10000
instance f31 (c : Int) : Fn BB 138 [.int .u8 c] True (.bool (isSp c)) := by
 refine Fn.intro (N := 10) [0,2,3,4] [] Tryz.call138 Tryz.func138 rfl rfl (by kernel_rfl) (fun hpre => ?_)
 repeat' ((conv => whnf);first|(with_reducible first|rfl|exact jKE|exact jKD)|exact True.intro|intro _|refine WA ?_ ?_|refine WF ?_|refine W1 rfl ?_ ?_|refine W2 rfl ?_ ?_|refine W3 rfl ?_ ?_|refine W4 ?_ ?_|refine W5 rfl ?_ ?_|refine W6 ?_ ?_|refine WN ?_|refine X1 (W1 rfl ?_ ?_)|refine X1 (W2 rfl ?_ ?_)|refine X2 (W7 rfl ?_ ?_)|refine X3 (W7 rfl ?_ ?_)|refine X4 (W7 rfl ?_ ?_)|refine X5 (W7 rfl ?_ ?_))
 all_goals (try (conv => whnf))
 all_goals (simp_all [isSp];done)
instance f40 (c : Int) : Fn BB 149 [.int .u8 c] True (.bool (isSp c)) := by
 refine Fn.intro (N := 21) [0,2] [] Tryz.call149 Tryz.func149 rfl rfl (by kernel_rfl) (fun hpre => ?_)
 repeat' ((conv => whnf);first|(with_reducible first|rfl|exact jKE|exact jKD)|exact True.intro|intro _|refine WA ?_ ?_|refine WF ?_|refine W1 rfl ?_ ?_|refine W2 rfl ?_ ?_|refine W3 rfl ?_ ?_|refine W4 ?_ ?_|refine W5 rfl ?_ ?_|refine W6 ?_ ?_|refine WN ?_|refine X1 (W1 rfl ?_ ?_)|refine X1 (W2 rfl ?_ ?_)|refine X2 (W7 rfl ?_ ?_)|refine X3 (W7 rfl ?_ ?_)|refine X4 (W7 rfl ?_ ?_)|refine X5 (W7 rfl ?_ ?_))
 all_goals (try (conv => whnf))
 all_goals (simp_all [isSp];done)
theorem take_snoc {α : Type} (l : List α) (i : Nat) (d : α) (h : i < l.length) : l.take (i + 1) = l.take i ++ [l.getD i d] := by
 rw [List.take_succ_eq_append_getElem h];simp [List.getD,List.getElem?_eq_getElem h]
theorem jP2 (l : List (List UInt8)) (i : Nat) (w : List UInt8) (h : i < l.length) : (l.take (i+1)).contains w = ((l.take i).contains w || (l.getD i [] == w)) := by
 rw [take_snoc l i [] h]
 simp only [List.contains_eq_any_beq,List.any_append,List.any_cons,List.any_nil,Bool.or_false]
 congr 1
 exact Bool.beq_comm
instance f34 (l : List (List UInt8)) (w : List UInt8) : Fn BB 131 [.rd .str l,.str w] True (.bool (l.contains w)) := by
 refine Fn.intro (N := 18) [0,1,4,5,9,17] [] Tryz.call131 Tryz.func131 rfl rfl (by kernel_rfl) (fun hpre => ?_)
 (conv => whnf)
 refine LoopStop.mk (α := Nat) (fun i => [(5,.int .i64 i)]) (fun _ => []) 0 (fun i => i ≤ l.length ∧ (l.take i).contains w = false) (fun i => l.length - i) 0 (by simp) ?_ (fun i hi => ?_)
 ·repeat' ((conv => whnf);first|(with_reducible first|rfl|exact jKE|exact jKD)|exact True.intro|intro _|refine WA ?_ ?_|refine WF ?_|refine W1 rfl ?_ ?_|refine W2 rfl ?_ ?_|refine W3 rfl ?_ ?_|refine W4 ?_ ?_|refine W5 rfl ?_ ?_|refine W6 ?_ ?_|refine WN ?_|refine X1 (W1 rfl ?_ ?_)|refine X1 (W2 rfl ?_ ?_)|refine X2 (W7 rfl ?_ ?_)|refine X3 (W7 rfl ?_ ?_)|refine X4 (W7 rfl ?_ ?_)|refine X5 (W7 rfl ?_ ?_))
  all_goals (try (conv => whnf))
  all_goals (try rfl)
 ·repeat' ((conv => whnf);first|(with_reducible first|rfl|exact jKE|exact jKD)|exact True.intro|intro _|refine WA ?_ ?_|refine WF ?_|refine W1 rfl ?_ ?_|refine W2 rfl ?_ ?_|refine W3 rfl ?_ ?_|refine W4 ?_ ?_|refine W5 rfl ?_ ?_|refine W6 ?_ ?_|refine WN ?_|refine X1 (W1 rfl ?_ ?_)|refine X1 (W2 rfl ?_ ?_)|refine X2 (W7 rfl ?_ ?_)|refine X3 (W7 rfl ?_ ?_)|refine X4 (W7 rfl ?_ ?_)|refine X5 (W7 rfl ?_ ?_))
  all_goals (try (conv => whnf))
  all_goals (try first|exact obA|refine Ob.mk ?_)
  all_goals (try simp only [ZA,ZB,ZC,ZD,ZE,ZF,ZG,ZH,ZI,ZJ,ZK,ZL,ZM,ZN,ZO,Int.toNat_natCast,UInt8.ofNat_toNat,cast_eq] at *)
  ·rename_i h1 h2 h3
   have h4 : i < l.length := by omega
   rw [← h3];simp [List.getD,List.getElem?_eq_getElem h4]
  ·rename_i h1 h2 h3
   have h4 : i < l.length := by omega
   refine Rnd.mk ⟨i + 1,?_,?_,?_⟩
   ·refine ⟨by omega,?_⟩
    rw [jP2 l i w h4,hi.2,Bool.false_or];exact beq_eq_false_iff_ne.mpr h3
   ·omega
   ·all_goals exact vcA
  ·rename_i h1 h2
   have : i = l.length := by omega
   subst this;simp_all
end Go.Vc.W

namespace Go.Vc.W
open Go.Proofs
set_option maxRecDepth 10000
def jN5 (p : List (List UInt8) × List UInt8) (c : UInt8) : List (List UInt8) × List UInt8 :=
 if isSp c.toNat then (if p.2 = [] then (p.1,[]) else (p.1 ++ [p.2],[])) else (p.1,p.2 ++ [c])
def jnT (p : List (List UInt8) × List UInt8) : List (List UInt8) := if p.2 = [] then p.1 else p.1 ++ [p.2]
def spl (s : List UInt8) : List (List UInt8) := jnT (s.foldl jN5 ([],[]))
def jNW (s : List UInt8) (i : Nat) : List (List UInt8) × List UInt8 := (s.take i).foldl jN5 ([],[])
theorem jLH (s : List UInt8) (i : Nat) (h : i < s.length) : jNW s (i + 1) = jN5 (jNW s i) (s.getD i 0) := by
 unfold jNW;rw [take_snoc s i 0 h,List.foldl_append];rfl
theorem jTO (s : List UInt8) (i : Nat) (h : s.length ≤ i) : jNW s i = s.foldl jN5 ([],[]) := by
 unfold jNW;rw [List.take_of_length_le h]
theorem je1 (p : List (List UInt8) × List UInt8) (c : UInt8) : (jN5 p c).1.length + (jN5 p c).2.length ≤ p.1.length + p.2.length + 1 := by
 unfold jN5
 by_cases h : isSp c.toNat = true
 ·by_cases h2 : p.2 = []
  ·simp [h,h2]
  ·have := List.length_pos_iff.mpr h2
   simp [h,h2]
 ·simp [h];omega
theorem jXF (s : List UInt8) (i : Nat) : (jNW s i).1.length + (jNW s i).2.length ≤ i := by
 induction i with
 | zero => simp [jNW]
 | succ i ih =>
  by_cases h : i < s.length
  ·rw [jLH s i h];have := je1 (jNW s i) (s.getD i 0);omega
  ·have e : jNW s (i+1) = jNW s i := by rw [jTO s (i+1) (by omega),jTO s i (by omega)]
   rw [e];exact Nat.le_succ_of_le ih
theorem jQY (s : List UInt8) (i : Nat) (h : i < s.length) : (s.take (i+1)).drop i = [s.getD i 0] := by
 rw [take_snoc s i 0 h,List.drop_append,List.length_take,Nat.min_eq_left (by omega)];simp
theorem jQU (i : Nat) : ((i:Int)+1).toNat = i+1 := by omega
theorem ji8 {s : List UInt8} {i : Nat} (h : s.length ≤ i) (h2 : ¬ (jNW s i).2 = []) : spl s = (jNW s i).1 ++ [(jNW s i).2] := by
 unfold spl;rw [← jTO s i h];simp [jnT,h2]
theorem jhZ {s : List UInt8} {i : Nat} (h : s.length ≤ i) (h2 : (jNW s i).2 = []) : spl s = (jNW s i).1 := by
 unfold spl;rw [← jTO s i h];simp [jnT,h2]
theorem jPO {p : List (List UInt8) × List UInt8} {c : UInt8} (h : isSp c.toNat = false) : jN5 p c = (p.1,p.2 ++ [c]) := by
 simp [jN5,h]
theorem jO1 {p : List (List UInt8) × List UInt8} {c : UInt8} (h : isSp c.toNat = true) (h2 : p.2 = []) : jN5 p c = (p.1,[]) := by
 simp [jN5,h,h2]
theorem jN2 {p : List (List UInt8) × List UInt8} {c : UInt8} (h : isSp c.toNat = true) (h2 : ¬ p.2 = []) : jN5 p c = (p.1 ++ [p.2],[]) := by
 simp [jN5,h,h2]
instance f35 (s : List UInt8) : Fn BB 104 [.str s] (s.length ≤ 100000) (.rd .str (spl s)) := by
 refine Fn.intro (N := 37) [0,2,3,4,5,9,16,25,31] [] Tryz.call104 Tryz.func104 rfl rfl (by kernel_rfl) (fun hpre => ?_)
 (conv => whnf)
 refine LoopStop.mk (α := Nat) (fun i => [(3,.own 0),(4,.str (jNW s i).2),(5,.int .i64 i)]) (fun i => [(0,.own .str (jNW s i).1)]) 1 (fun i => i ≤ s.length) (fun i => s.length - i) 0 (by simp) ?_ (fun i hi => ?_)
 ·repeat' ((conv => whnf);first|(with_reducible first|rfl|exact jKE|exact jKD)|exact True.intro|intro _|refine WA ?_ ?_|refine WF ?_|refine W1 rfl ?_ ?_|refine W2 rfl ?_ ?_|refine W3 rfl ?_ ?_|refine W4 ?_ ?_|refine W5 rfl ?_ ?_|refine W6 ?_ ?_|refine WN ?_|refine X1 (W1 rfl ?_ ?_)|refine X1 (W2 rfl ?_ ?_)|refine X2 (W7 rfl ?_ ?_)|refine X3 (W7 rfl ?_ ?_)|refine X4 (W7 rfl ?_ ?_)|refine X5 (W7 rfl ?_ ?_))
  all_goals (try (conv => whnf))
  all_goals (try rfl)
 ·have hl := jXF s i
  repeat' ((conv => whnf);first|(with_reducible first|rfl|exact jKE|exact jKD)|exact True.intro|intro _|refine WA ?_ ?_|refine WF ?_|refine W1 rfl ?_ ?_|refine W2 rfl ?_ ?_|refine W3 rfl ?_ ?_|refine W4 ?_ ?_|refine W5 rfl ?_ ?_|refine W6 ?_ ?_|refine WN ?_|refine X1 (W1 rfl ?_ ?_)|refine X1 (W2 rfl ?_ ?_)|refine X2 (W7 rfl ?_ ?_)|refine X3 (W7 rfl ?_ ?_)|refine X4 (W7 rfl ?_ ?_)|refine X5 (W7 rfl ?_ ?_))
  all_goals (try (conv => whnf))
  all_goals (try first|exact obA|refine Ob.mk ?_)
  all_goals (try simp only [ZA,ZB,ZC,ZD,ZE,ZF,ZG,ZH,ZI,ZJ,ZK,ZL,ZM,ZN,ZO,Int.toNat_natCast,UInt8.ofNat_toNat,cast_eq] at *)
  ·have h : i < s.length := by omega
   have e := jLH s i h
   rw [jPO ‹_›] at e
   refine Rnd.mk ⟨i + 1,?_,?_,?_⟩
   ·exact h
   ·omega
   ·repeat' ((conv => whnf);first|(with_reducible first|rfl|exact jKE|exact jKD)|exact True.intro|intro _|refine WA ?_ ?_|refine WF ?_|refine W1 rfl ?_ ?_|refine W2 rfl ?_ ?_|refine W3 rfl ?_ ?_|refine W4 ?_ ?_|refine W5 rfl ?_ ?_|refine W6 ?_ ?_|refine WN ?_|refine X1 (W1 rfl ?_ ?_)|refine X1 (W2 rfl ?_ ?_)|refine X2 (W7 rfl ?_ ?_)|refine X3 (W7 rfl ?_ ?_)|refine X4 (W7 rfl ?_ ?_)|refine X5 (W7 rfl ?_ ?_))
    all_goals (try (conv => whnf))
    all_goals (try first|exact obA|refine Ob.mk ?_)
    all_goals (simp only [e,jQU,jQY s i h];done)
  ·skip
   have h : i < s.length := by omega
   have e := jLH s i h
   rw [jN2 ‹_› ‹_›] at e
   repeat' ((conv => whnf);first|(with_reducible first|rfl|exact jKE|exact jKD)|exact True.intro|intro _|refine WA ?_ ?_|refine WF ?_|refine W1 rfl ?_ ?_|refine W2 rfl ?_ ?_|refine W3 rfl ?_ ?_|refine W4 ?_ ?_|refine W5 rfl ?_ ?_|refine W6 ?_ ?_|refine WN ?_|refine X1 (W1 rfl ?_ ?_)|refine X1 (W2 rfl ?_ ?_)|refine X2 (W7 rfl ?_ ?_)|refine X3 (W7 rfl ?_ ?_)|refine X4 (W7 rfl ?_ ?_)|refine X5 (W7 rfl ?_ ?_))
   all_goals (try (conv => whnf))
   all_goals (try first|exact obA|refine Ob.mk ?_)
   refine Rnd.mk ⟨i + 1,?_,?_,?_⟩
   ·exact h
   ·omega
   ·repeat' ((conv => whnf);first|(with_reducible first|rfl|exact jKE|exact jKD)|exact True.intro|intro _|refine WA ?_ ?_|refine WF ?_|refine W1 rfl ?_ ?_|refine W2 rfl ?_ ?_|refine W3 rfl ?_ ?_|refine W4 ?_ ?_|refine W5 rfl ?_ ?_|refine W6 ?_ ?_|refine WN ?_|refine X1 (W1 rfl ?_ ?_)|refine X1 (W2 rfl ?_ ?_)|refine X2 (W7 rfl ?_ ?_)|refine X3 (W7 rfl ?_ ?_)|refine X4 (W7 rfl ?_ ?_)|refine X5 (W7 rfl ?_ ?_))
    all_goals (try (conv => whnf))
    all_goals (try first|exact obA|refine Ob.mk ?_)
    all_goals (simp only [e];done)
  ·have h : i < s.length := by omega
   have e := jLH s i h
   rw [jO1 ‹_› ‹_›] at e
   refine Rnd.mk ⟨i + 1,?_,?_,?_⟩
   ·exact h
   ·omega
   ·repeat' ((conv => whnf);first|(with_reducible first|rfl|exact jKE|exact jKD)|exact True.intro|intro _|refine WA ?_ ?_|refine WF ?_|refine W1 rfl ?_ ?_|refine W2 rfl ?_ ?_|refine W3 rfl ?_ ?_|refine W4 ?_ ?_|refine W5 rfl ?_ ?_|refine W6 ?_ ?_|refine WN ?_|refine X1 (W1 rfl ?_ ?_)|refine X1 (W2 rfl ?_ ?_)|refine X2 (W7 rfl ?_ ?_)|refine X3 (W7 rfl ?_ ?_)|refine X4 (W7 rfl ?_ ?_)|refine X5 (W7 rfl ?_ ?_))
    all_goals (try (conv => whnf))
    all_goals (try first|exact obA|refine Ob.mk ?_)
    all_goals (simp only [e];done)
  ·skip
   repeat' ((conv => whnf);first|(with_reducible first|rfl|exact jKE|exact jKD)|exact True.intro|intro _|refine WA ?_ ?_|refine WF ?_|refine W1 rfl ?_ ?_|refine W2 rfl ?_ ?_|refine W3 rfl ?_ ?_|refine W4 ?_ ?_|refine W5 rfl ?_ ?_|refine W6 ?_ ?_|refine WN ?_|refine X1 (W1 rfl ?_ ?_)|refine X1 (W2 rfl ?_ ?_)|refine X2 (W7 rfl ?_ ?_)|refine X3 (W7 rfl ?_ ?_)|refine X4 (W7 rfl ?_ ?_)|refine X5 (W7 rfl ?_ ?_))
   all_goals (try (conv => whnf))
   rw [ji8 (i := i) (by omega) ‹_›]
  ·rw [jhZ (i := i) (by omega) ‹_›]
end Go.Vc.W

namespace Go.Vc.W
open Go.Proofs
set_option maxRecDepth 10000
instance f29 (s w : List UInt8) : Fn BB 72 [.str s,.str w] (s.length ≤ 100000) (.bool ((spl s).contains w)) := by
 refine Fn.intro (N := 9) [0,1,4] [] Tryz.call72 Tryz.func72 rfl rfl (by kernel_rfl) (fun hpre => ?_)
 all_goals exact vcA
theorem jTD {l : List (List UInt8)} {i : Nat} (h : i < l.length) : l.contains (l.getD i []) = true := by
 simp [List.getD,List.getElem?_eq_getElem h]
def jXQ (l : List (List UInt8)) (w : List UInt8) : Int := if l.contains w then (l.idxOf w : Int) else -1
theorem jPD {l : List (List UInt8)} {w : List UInt8} (h : l.contains w = false) : jXQ l w = -1 := by rw [jXQ,h];rfl
theorem jUQ {l : List (List UInt8)} {w : List UInt8} {i : Nat} (h : i < l.length) (h1 : (l.take i).contains w = false) (h2 : w = l.getD i []) : jXQ l w = i := by
 rw [jXQ,h2,jTD h, ← h2,if_pos rfl]
 have e := List.take_append_drop i l
 rw [← e,List.idxOf_append,if_neg (by simpa using h1),List.length_take,Nat.min_eq_left (by omega)]
 have e2 : l.drop i = w :: l.drop (i+1) := by rw [List.drop_eq_getElem_cons h,h2];simp [List.getD,List.getElem?_eq_getElem h]
 rw [e2,List.idxOf_cons_self];simp
instance f37 (l : List (List UInt8)) (w : List UInt8) : Fn BB 173 [.rd .str l,.str w] True (.int .i64 (jXQ l w)) := by
 refine Fn.intro (N := 19) [0,1,4,5,7,8,9,16] [] Tryz.call173 Tryz.func173 rfl rfl (by kernel_rfl) (fun hpre => ?_)
 (conv => whnf)
 intro hlen
 (conv => whnf)
 refine LoopStop.mk (α := Nat) (fun i => [(8,.int .i64 i)]) (fun i => []) 0 (fun i => i ≤ l.length ∧ (l.take i).contains w = false) (fun i => l.length - i) 0 (by simp) ?_ (fun i hi => ?_)
 ·repeat' ((conv => whnf);first|(with_reducible first|rfl|exact jKE|exact jKD)|exact True.intro|intro _|refine WA ?_ ?_|refine WF ?_|refine W1 rfl ?_ ?_|refine W2 rfl ?_ ?_|refine W3 rfl ?_ ?_|refine W4 ?_ ?_|refine W5 rfl ?_ ?_|refine W6 ?_ ?_|refine WN ?_|refine X1 (W1 rfl ?_ ?_)|refine X1 (W2 rfl ?_ ?_)|refine X2 (W7 rfl ?_ ?_)|refine X3 (W7 rfl ?_ ?_)|refine X4 (W7 rfl ?_ ?_)|refine X5 (W7 rfl ?_ ?_))
  all_goals (try (conv => whnf))
  all_goals (try rfl)
 ·repeat' ((conv => whnf);first|(with_reducible first|rfl|exact jKE|exact jKD)|exact True.intro|intro _|refine WA ?_ ?_|refine WF ?_|refine W1 rfl ?_ ?_|refine W2 rfl ?_ ?_|refine W3 rfl ?_ ?_|refine W4 ?_ ?_|refine W5 rfl ?_ ?_|refine W6 ?_ ?_|refine WN ?_|refine X1 (W1 rfl ?_ ?_)|refine X1 (W2 rfl ?_ ?_)|refine X2 (W7 rfl ?_ ?_)|refine X3 (W7 rfl ?_ ?_)|refine X4 (W7 rfl ?_ ?_)|refine X5 (W7 rfl ?_ ?_))
  all_goals (try (conv => whnf))
  all_goals (try first|exact obA|refine Ob.mk ?_)
  all_goals (try simp only [ZA,ZB,ZC,ZD,ZE,ZF,ZG,ZH,ZI,ZJ,ZK,ZL,ZM,ZN,ZO,Int.toNat_natCast,UInt8.ofNat_toNat,cast_eq] at *)
  ·rw [jUQ (by omega) hi.2 ‹_›]
  ·have h : i < l.length := by omega
   refine Rnd.mk ⟨i + 1,?_,?_,?_⟩
   ·refine ⟨by omega,?_⟩
    rw [jP2 l i w h,hi.2,Bool.false_or];exact beq_eq_false_iff_ne.mpr (fun e => by simp_all)
   ·omega
   ·all_goals exact vcA
  ·have : i = l.length := by omega
   subst this
   rw [jPD (by simpa using hi.2)]
instance f32 (l : List (List UInt8)) (w : List UInt8) : Fn BB 139 [.rd .str l,.str w] True (.bool (decide (jXQ l w ≥ 0))) := by
 refine Fn.intro (N := 9) [0,1,4] [] Tryz.call139 Tryz.func139 rfl rfl (by kernel_rfl) (fun hpre => ?_)
 all_goals exact vcA
end Go.Vc.W

namespace Go.Vc.W
open Go.Proofs
set_option maxRecDepth 10000
def spR (r : Int) : Bool := decide (r < 128) && isSp (IntKind.u8.wrap r)
instance f39 (r : Int) : Fn BB 147 [.int .i32 r] (0 ≤ r) (.bool (spR r)) := by
 refine Fn.intro (N := 10) [0,2] [] Tryz.call147 Tryz.func147 rfl rfl (by kernel_rfl) (fun hpre => ?_)
 all_goals exact vcA
theorem getB (s : List UInt8) (j : Nat) : (ByteArray.get! ⟨s.toArray⟩ j) = s.getD j 0 := by
 by_cases h : j < s.length
 ·have : j < s.toArray.size := by simpa using h
  simp [ByteArray.get!,List.getD,h]
 ·simp [ByteArray.get!,List.getD,h];rfl
theorem jM3 (s : List UInt8) (pos : Nat) (h : pos < s.length) : 1 ≤ (jON s pos).2 ∧ pos + (jON s pos).2 ≤ s.length ∧
  (if (jON s pos).1 < 128 then (jON s pos).2 = 1 ∧ (jON s pos).1 = (s.getD pos 0).toNat else ∀ j,pos ≤ j → j < pos + (jON s pos).2 → 128 ≤ (s.getD j 0).toNat) := by
 have hsz : ByteArray.size ⟨s.toArray⟩ = s.length := by simp [ByteArray.size]
 have hb : ∀ j,(s.getD j 0).toNat < 256 := fun j => UInt8.toNat_lt _
 unfold jON Utf8.decode
 simp only [getB,hsz,Nat.add_zero]
 generalize e0 : (s.getD pos 0).toNat = b0
 generalize e1 : (s.getD (pos+1) 0).toNat = b1
 generalize e2 : (s.getD (pos+2) 0).toNat = b2
 generalize e3 : (s.getD (pos+3) 0).toNat = b3
 have k0 := hb pos
 have k1 := hb (pos+1)
 have k2 := hb (pos+2)
 have k3 := hb (pos+3)
 rw [e0] at k0;rw [e1] at k1;rw [e2] at k2;rw [e3] at k3
 have one : ∀ j,pos ≤ j → j < pos + 1 → (s.getD j 0).toNat = b0 := fun j h1 h2 => by
  have : j = pos := by omega
  subst this;exact e0
 split
 ·simp;omega
 ·rename_i hb0
  have fallb : ∀ j,pos ≤ j → j < pos + 1 → 128 ≤ (s.getD j 0).toNat := fun j h1 h2 => by rw [one j h1 h2];omega
  have err : 1 ≤ ((Utf8.runeError,1) : Nat × Nat).2 ∧ pos + ((Utf8.runeError,1) : Nat × Nat).2 ≤ s.length ∧ (if ((Utf8.runeError,1) : Nat × Nat).1 < 128 then ((Utf8.runeError,1) : Nat × Nat).2 = 1 ∧ ((Utf8.runeError,1) : Nat × Nat).1 = b0 else ∀ j,pos ≤ j → j < pos + ((Utf8.runeError,1) : Nat × Nat).2 → 128 ≤ (s.getD j 0).toNat) := by
   refine ⟨Nat.le_refl _,h,?_⟩
   rw [if_neg (by decide)];exact fallb
  split
  ·rename_i h2
   simp only [Bool.and_eq_true,decide_eq_true_eq,beq_iff_eq] at h2
   split
   ·refine ⟨by simp,by simp;omega,?_⟩
    rw [if_neg (by simp;omega)]
    intro j h3 h4
    have : j = pos ∨ j = pos + 1 := by simp at h4;omega
    rcases this with rfl | rfl
    ·rw [e0];omega
    ·rw [e1];omega
   ·exact err
  ·split
   ·rename_i h2
    simp only [Bool.and_eq_true,decide_eq_true_eq,beq_iff_eq] at h2
    split
    ·rename_i h5
     simp only [Bool.and_eq_true,decide_eq_true_eq,beq_iff_eq] at h5
     refine ⟨by simp,by simp;omega,?_⟩
     rw [if_neg (by simp;omega)]
     intro j h3 h4
     have : j = pos ∨ j = pos + 1 ∨ j = pos + 2 := by simp at h4;omega
     rcases this with rfl | rfl | rfl
     ·rw [e0];omega
     ·rw [e1];omega
     ·rw [e2];omega
    ·exact err
   ·split
    ·rename_i h2
     simp only [Bool.and_eq_true,decide_eq_true_eq,beq_iff_eq] at h2
     split
     ·rename_i h5
      simp only [Bool.and_eq_true,decide_eq_true_eq,beq_iff_eq] at h5
      refine ⟨by simp,by simp;omega,?_⟩
      rw [if_neg (by simp;omega)]
      intro j h3 h4
      have : j = pos ∨ j = pos + 1 ∨ j = pos + 2 ∨ j = pos + 3 := by simp at h4;omega
      rcases this with rfl | rfl | rfl | rfl
      ·rw [e0];omega
      ·rw [e1];omega
      ·rw [e2];omega
      ·rw [e3];omega
     ·exact err
    ·exact err
def cut (s : List UInt8) (p : Int × Int) : List UInt8 := (s.take p.2.toNat).drop p.1.toNat
theorem jg5 {c : Nat} (h : 128 ≤ c) : isSp c = false := by
 simp only [isSp,Bool.or_eq_false_iff,beq_eq_false_iff_ne];omega
theorem jTN (s : List UInt8) (i pos : Nat) (h : i ≤ pos) (h2 : pos < s.length) : cut s (i,(pos+1:Nat)) = cut s (i,pos) ++ [s.getD pos 0] := by
 unfold cut
 simp only [Int.toNat_natCast]
 rw [take_snoc s pos 0 h2,List.drop_append_of_le_length (by rw [List.length_take];omega)]
theorem jdQ (s : List UInt8) (pos k : Nat) (h : pos + k ≤ s.length) (hh : ∀ j,pos ≤ j → j < pos + k → isSp (s.getD j 0).toNat = false) :
  jNW s (pos + k) = ((jNW s pos).1,(jNW s pos).2 ++ cut s (pos,(pos + k : Nat))) := by
 induction k with
 | zero => simp [cut]
 | succ k ih =>
  rw [← Nat.add_assoc,jLH s _ (by omega),jPO (hh _ (by omega) (by omega)),ih (by omega) (fun j h1 h2 => hh j h1 (by omega)),jTN s pos (pos+k) (by omega) (by omega)]
  simp
theorem joD (s : List UInt8) (i j k : Nat) (h : i ≤ j) (h2 : j ≤ k) (h3 : k ≤ s.length) : cut s (i,j) ++ cut s (j,k) = cut s (i,k) := by
  induction k with
  | zero => have : j = 0 := by omega
            have : i = 0 := by omega
            subst_vars;simp [cut]
  | succ k ih =>
    by_cases e : j = k + 1
    · subst e;simp [cut]
    · rw [jTN s j k (by omega) (by omega),jTN s i k (by omega) (by omega), ← List.append_assoc,ih (by omega) (by omega)]
end Go.Vc.W

namespace Go.Vc.W
open Go.Proofs
set_option maxRecDepth 10000
structure FS where
 pos : Nat
 spans : List (Int × Int)
 start : Int
structure FSok (s : List UInt8) (a : FS) : Prop where
 hp : a.pos ≤ s.length
 hs : a.spans.map (cut s) = (jNW s a.pos).1
 hr : ∀ p ∈ a.spans,0 ≤ p.1 ∧ p.1 ≤ p.2 ∧ p.2 ≤ s.length
 hb : -(s.length : Int) - 1 ≤ a.start ∧ a.start ≤ s.length
 hw : if a.start < 0 then (jNW s a.pos).2 = [] else a.start < a.pos ∧ (jNW s a.pos).2 = cut s (a.start,a.pos)
theorem FSok.len {s : List UInt8} {a : FS} (h : FSok s a) : a.spans.length ≤ a.pos := by
 have := jXF s a.pos
 rw [← h.hs,List.length_map] at this;omega
theorem jl0 {s : List UInt8} {i : Int} {j : Nat} (h0 : 0 ≤ i) (h : i < j) (h2 : j ≤ s.length) : ¬ cut s (i,j) = [] := by
 intro e
 have := congrArg List.length e
 simp [cut] at this
 omega
theorem jdW {s : List UInt8} {pos : Nat} (h : pos < s.length) :
  (spR (jON s pos).1 = true → (jON s pos).2 = 1 ∧ isSp (s.getD pos 0).toNat = true) ∧
  (spR (jON s pos).1 = false → pos < pos + (jON s pos).2 ∧ pos + (jON s pos).2 ≤ s.length ∧ ∀ j,pos ≤ j → j < pos + (jON s pos).2 → isSp (s.getD j 0).toNat = false) := by
 have ⟨d1,d2,d3⟩ := jM3 s pos h
 have hw : (jON s pos).1 < 128 → IntKind.u8.wrap ((jON s pos).1 : Int) = (jON s pos).1 := fun hh => by
  simp [IntKind.wrap,IntKind.signed,IntKind.bits];omega
 by_cases hh : (jON s pos).1 < 128
 ·rw [if_pos hh] at d3
  have e : spR (jON s pos).1 = isSp (s.getD pos 0).toNat := by
   unfold spR;rw [hw hh,decide_eq_true (by omega),Bool.true_and,d3.2]
  rw [e]
  refine ⟨fun k => ⟨d3.1,k⟩,fun k => ⟨by omega,d2,fun j h1 h2 => ?_⟩⟩
  have : j = pos := by omega
  subst this;exact k
 ·rw [if_neg hh] at d3
  have e : spR (jON s pos).1 = false := by unfold spR;simp;intro k;omega
  rw [e]
  refine ⟨fun k => (nomatch k),fun _ => ⟨by omega,d2,fun j h1 h2 => jg5 (d3 j h1 h2)⟩⟩
theorem jlY {s : List UInt8} {a : FS} (h : FSok s a) (h1 : a.pos < s.length) (h2 : spR (jON s a.pos).1 = true) (h3 : 0 ≤ a.start) :
  FSok s ⟨a.pos + (jON s a.pos).2,a.spans ++ [(a.start,(a.pos:Int))], -a.start - 1⟩ := by
 have ⟨e1,e2⟩ := (jdW h1).1 h2
 have hw := h.hw;rw [if_neg (by omega)] at hw
 have hb := h.hb
 have e := jLH s a.pos h1
 rw [jN2 e2 (by rw [hw.2];exact jl0 h3 hw.1 h.hp)] at e
 constructor
 ·simp only [e1];omega
 ·simp only [e1,e,List.map_append,h.hs,hw.2];rfl
 ·intro p hp
  rcases List.mem_append.mp hp with hp | hp
  ·exact h.hr p hp
  ·simp at hp;subst hp;simp;omega
 ·simp;omega
 ·rw [if_pos (by simp;omega)];simp only [e1,e]
theorem jmD {s : List UInt8} {a : FS} (h : FSok s a) (h1 : a.pos < s.length) (h2 : spR (jON s a.pos).1 = true) (h3 : a.start < 0) :
  FSok s ⟨a.pos + (jON s a.pos).2,a.spans,a.start⟩ := by
 have ⟨e1,e2⟩ := (jdW h1).1 h2
 have hw := h.hw;rw [if_pos (by omega)] at hw
 have e := jLH s a.pos h1
 rw [jO1 e2 hw] at e
 constructor
 ·simp only [e1];omega
 ·simp only [e1,e,h.hs]
 ·exact h.hr
 ·exact h.hb
 ·rw [if_pos (by simpa using h3)];simp only [e1,e]
theorem jlX {s : List UInt8} {a : FS} (h : FSok s a) (h1 : a.pos < s.length) (h2 : spR (jON s a.pos).1 = false) (h3 : 0 ≤ a.start) :
  FSok s ⟨a.pos + (jON s a.pos).2,a.spans,a.start⟩ := by
 have ⟨e0,e1,e2⟩ := (jdW h1).2 h2
 have hw := h.hw;rw [if_neg (by omega)] at hw
 have e := jdQ s a.pos _ e1 e2
 constructor
 ·exact e1
 ·simp only [e,h.hs]
 ·exact h.hr
 ·exact h.hb
 ·rw [if_neg (by simp;omega)];simp only [e]
  refine ⟨by omega,?_⟩
  rw [hw.2]
  obtain ⟨i,hi⟩ : ∃ i : Nat,a.start = i := ⟨a.start.toNat,by omega⟩
  rw [hi,joD s i a.pos _ (by omega) (by omega) e1]
theorem jmK {s : List UInt8} {a : FS} (h : FSok s a) (h1 : a.pos < s.length) (h2 : spR (jON s a.pos).1 = false) (h3 : a.start < 0) :
  FSok s ⟨a.pos + (jON s a.pos).2,a.spans,(a.pos : Int)⟩ := by
 have ⟨e0,e1,e2⟩ := (jdW h1).2 h2
 have hw := h.hw;rw [if_pos (by omega)] at hw
 have e := jdQ s a.pos _ e1 e2
 constructor
 ·exact e1
 ·simp only [e,h.hs]
 ·exact h.hr
 ·simp;omega
 ·rw [if_neg (by simp)];simp only [e]
  refine ⟨by omega,?_⟩
  rw [hw];rfl
theorem jg6 {s : List UInt8} {a : FS} (h : FSok s a) (h1 : ¬ a.pos < s.length) (h3 : 0 ≤ a.start) :
  (a.spans ++ [(a.start,(s.length:Int))]).map (cut s) = spl s ∧ ∀ p ∈ (a.spans ++ [(a.start,(s.length:Int))]),0 ≤ p.1 ∧ p.1 ≤ p.2 ∧ p.2 ≤ s.length := by
 have hp := h.hp
 have e : a.pos = s.length := by omega
 have hw := h.hw;rw [if_neg (by omega)] at hw
 have hb := h.hb
 refine ⟨?_,?_⟩
 ·rw [ji8 (i := a.pos) (by omega) (by rw [hw.2];exact jl0 h3 hw.1 h.hp),hw.2, ← h.hs,e,List.map_append];rfl
 ·intro p hp
  rcases List.mem_append.mp hp with hp | hp
  ·exact h.hr p hp
  ·simp at hp;subst hp;simp;omega
theorem jiS {s : List UInt8} {a : FS} (h : FSok s a) (h1 : ¬ a.pos < s.length) (h3 : a.start < 0) :
  a.spans.map (cut s) = spl s ∧ ∀ p ∈ a.spans,0 ≤ p.1 ∧ p.1 ≤ p.2 ∧ p.2 ≤ s.length := by
 have hp := h.hp
 have e : a.pos = s.length := by omega
 have hw := h.hw;rw [if_pos (by omega)] at hw
 exact ⟨by rw [jhZ (i := a.pos) (by omega) hw,h.hs],h.hr⟩
end Go.Vc.W

namespace Go.Vc.W
open Go.Proofs
set_option maxRecDepth 10000
theorem jc8 (x : Int) (h : -100001 ≤ x ∧ x ≤ 100000) : jVA BinOp.xor IntKind.i64 (if IntKind.i64.signed = true then -1 else IntKind.i64.max) x = -x - 1 := by
 have e : (if IntKind.i64.signed = true then (-1:Int) else IntKind.i64.max) = -1 := rfl
 rw [e]
 show IntKind.wrap .i64 ((BitVec.ofInt 64 (-1) ^^^ BitVec.ofInt 64 x).toNat : Int) = _
 have e2 : BitVec.ofInt 64 (-1) = BitVec.allOnes 64 := by decide
 rw [e2,BitVec.allOnes_xor,BitVec.toNat_not,BitVec.toNat_ofInt]
 simp [IntKind.wrap,IntKind.signed,IntKind.bits]
 omega
def fin2 (s : List UInt8) (sp : List (Int × Int)) (i : Nat) : List (List UInt8) := (sp.take i).map (cut s) ++ List.replicate (sp.length - i) []
theorem jNQ (s : List UInt8) (sp : List (Int × Int)) (i : Nat) (h : i ≤ sp.length) : (fin2 s sp i).length = sp.length := by
 simp [fin2];omega
theorem jTP (s : List UInt8) (sp : List (Int × Int)) (i : Nat) (h : i < sp.length) : (fin2 s sp i).set i (cut s (sp.getD i (0,0))) = fin2 s sp (i+1) := by
 unfold fin2
 rw [take_snoc sp i (0,0) h]
 have e : sp.length - i = (sp.length - (i+1)) + 1 := by omega
 rw [e,List.replicate_succ,List.set_append_right _ _ (by simp;omega)]
 simp
 have : i - min i sp.length = 0 := by omega
 rw [this];simp
theorem jTJ (s : List UInt8) (sp : List (Int × Int)) (i : Nat) (h : sp.length ≤ i) : fin2 s sp i = sp.map (cut s) := by
 unfold fin2;rw [List.take_of_length_le h];simp;omega
theorem jRG {α : Type} {l : List α} {i : Nat} {d : α} (h : i < l.length) : l.getD i d ∈ l := by
 simp [List.getD,List.getElem?_eq_getElem h]
instance f38 (s : List UInt8) : Fn BB 146 [.str s,.fn 147 []] (s.length ≤ 100000) (.rd .str (spl s)) := by
 refine Fn.intro (N := 65) [0,1,4,5,6,7,8,9,10,11,14,15,16,21,23,33,36,47,48,49,50] [] Tryz.call146 Tryz.func146 rfl rfl (by kernel_rfl) (fun hpre => ?_)
 repeat' ((conv => whnf);first|(with_reducible first|rfl|exact jKE|exact jKD)|exact True.intro|intro _|refine WA ?_ ?_|refine WF ?_|refine W1 rfl ?_ ?_|refine W2 rfl ?_ ?_|refine W3 rfl ?_ ?_|refine W4 ?_ ?_|refine W5 rfl ?_ ?_|refine W6 ?_ ?_|refine WN ?_|refine X1 (W1 rfl ?_ ?_)|refine X1 (W2 rfl ?_ ?_)|refine X2 (W7 rfl ?_ ?_)|refine X3 (W7 rfl ?_ ?_)|refine X4 (W7 rfl ?_ ?_)|refine X5 (W7 rfl ?_ ?_))
 all_goals (try (conv => whnf))
 all_goals (try first|exact obA|refine Ob.mk ?_)
 repeat' ((conv => whnf);first|(with_reducible first|rfl|exact jKE|exact jKD)|exact True.intro|intro _|refine WA ?_ ?_|refine WF ?_|refine W1 rfl ?_ ?_|refine W2 rfl ?_ ?_|refine W3 rfl ?_ ?_|refine W4 ?_ ?_|refine W5 rfl ?_ ?_|refine W6 ?_ ?_|refine WN ?_|refine X1 (W1 rfl ?_ ?_)|refine X1 (W2 rfl ?_ ?_)|refine X2 (W7 rfl ?_ ?_)|refine X3 (W7 rfl ?_ ?_)|refine X4 (W7 rfl ?_ ?_)|refine X5 (W7 rfl ?_ ?_))
 all_goals (try (conv => whnf))
 refine LoopStop.mk (α := FS) (fun a => [(5,.own 0),(6,.int .i64 a.start)]) (fun a => [(0,.own jxU a.spans),(1,.iter s a.pos)]) 2 (FSok s) (fun a => s.length - a.pos) ⟨0,[], -1⟩ ⟨by simp,by simp [jNW],by simp,by simp;omega,by simp [jNW]⟩ ?_ (fun a ha => ?_)
 ·repeat' ((conv => whnf);first|(with_reducible first|rfl|exact jKE|exact jKD)|exact True.intro|intro _|refine WA ?_ ?_|refine WF ?_|refine W1 rfl ?_ ?_|refine W2 rfl ?_ ?_|refine W3 rfl ?_ ?_|refine W4 ?_ ?_|refine W5 rfl ?_ ?_|refine W6 ?_ ?_|refine WN ?_|refine X1 (W1 rfl ?_ ?_)|refine X1 (W2 rfl ?_ ?_)|refine X2 (W7 rfl ?_ ?_)|refine X3 (W7 rfl ?_ ?_)|refine X4 (W7 rfl ?_ ?_)|refine X5 (W7 rfl ?_ ?_))
  all_goals (try (conv => whnf))
  all_goals (try rfl)
  all_goals trace_state
 ·have hl := ha.len
  have h1 := ha.hp
  have h2 := ha.hb
  repeat' ((conv => whnf);first|(with_reducible first|rfl|exact jKE|exact jKD)|exact True.intro|intro _|refine WA ?_ ?_|refine WF ?_|refine W1 rfl ?_ ?_|refine W2 rfl ?_ ?_|refine W3 rfl ?_ ?_|refine W4 ?_ ?_|refine W5 rfl ?_ ?_|refine W6 ?_ ?_|refine WN ?_|refine X1 (W1 rfl ?_ ?_)|refine X1 (W2 rfl ?_ ?_)|refine X2 (W7 rfl ?_ ?_)|refine X3 (W7 rfl ?_ ?_)|refine X4 (W7 rfl ?_ ?_)|refine X5 (W7 rfl ?_ ?_))
  all_goals (try (conv => whnf))
  all_goals (try first|exact obA|refine Ob.mk ?_)
  all_goals (try simp only [ZA,ZB,ZC,ZD,ZE,ZF,ZG,ZH,ZI,ZJ,ZK,ZL,ZM,ZN,ZO,Int.toNat_natCast,UInt8.ofNat_toNat,cast_eq] at *)
  ·skip
   repeat' ((conv => whnf);first|(with_reducible first|rfl|exact jKE|exact jKD)|exact True.intro|intro _|refine WA ?_ ?_|refine WF ?_|refine W1 rfl ?_ ?_|refine W2 rfl ?_ ?_|refine W3 rfl ?_ ?_|refine W4 ?_ ?_|refine W5 rfl ?_ ?_|refine W6 ?_ ?_|refine WN ?_|refine X1 (W1 rfl ?_ ?_)|refine X1 (W2 rfl ?_ ?_)|refine X2 (W7 rfl ?_ ?_)|refine X3 (W7 rfl ?_ ?_)|refine X4 (W7 rfl ?_ ?_)|refine X5 (W7 rfl ?_ ?_))
   all_goals (try (conv => whnf))
   all_goals (try first|exact obA|refine Ob.mk ?_)
   refine Rnd.mk ⟨⟨a.pos + (jON s a.pos).2,a.spans ++ [(a.start,(a.pos:Int))], -a.start - 1⟩,?_,?_,?_⟩
   ·exact jlY ha ‹_› ‹_› (by omega)
   ·have := (jM3 s a.pos ‹_›).1;simp;omega
   ·repeat' ((conv => whnf);first|(with_reducible first|rfl|exact jKE|exact jKD)|exact True.intro|intro _|refine WA ?_ ?_|refine WF ?_|refine W1 rfl ?_ ?_|refine W2 rfl ?_ ?_|refine W3 rfl ?_ ?_|refine W4 ?_ ?_|refine W5 rfl ?_ ?_|refine W6 ?_ ?_|refine WN ?_|refine X1 (W1 rfl ?_ ?_)|refine X1 (W2 rfl ?_ ?_)|refine X2 (W7 rfl ?_ ?_)|refine X3 (W7 rfl ?_ ?_)|refine X4 (W7 rfl ?_ ?_)|refine X5 (W7 rfl ?_ ?_))
    all_goals (try (conv => whnf))
    all_goals (try first|exact obA|refine Ob.mk ?_)
    all_goals (first | (rw [jc8 _ (by omega)];done) | skip)
    all_goals trace_state
  ·have := (jM3 s a.pos ‹_›).1
   refine Rnd.mk ⟨⟨a.pos + (jON s a.pos).2,a.spans,a.start⟩,?_,?_,?_⟩
   ·exact jmD ha ‹_› ‹_› (by omega)
   ·simp;omega
   ·repeat' ((conv => whnf);first|(with_reducible first|rfl|exact jKE|exact jKD)|exact True.intro|intro _|refine WA ?_ ?_|refine WF ?_|refine W1 rfl ?_ ?_|refine W2 rfl ?_ ?_|refine W3 rfl ?_ ?_|refine W4 ?_ ?_|refine W5 rfl ?_ ?_|refine W6 ?_ ?_|refine WN ?_|refine X1 (W1 rfl ?_ ?_)|refine X1 (W2 rfl ?_ ?_)|refine X2 (W7 rfl ?_ ?_)|refine X3 (W7 rfl ?_ ?_)|refine X4 (W7 rfl ?_ ?_)|refine X5 (W7 rfl ?_ ?_))
    all_goals (try (conv => whnf))
    all_goals (try first|exact obA|refine Ob.mk ?_)
    all_goals trace_state
  ·have := (jM3 s a.pos ‹_›).1
   refine Rnd.mk ⟨⟨a.pos + (jON s a.pos).2,a.spans,a.pos⟩,?_,?_,?_⟩
   ·exact jmK ha ‹_› ‹_› (by omega)
   ·simp;omega
   ·repeat' ((conv => whnf);first|(with_reducible first|rfl|exact jKE|exact jKD)|exact True.intro|intro _|refine WA ?_ ?_|refine WF ?_|refine W1 rfl ?_ ?_|refine W2 rfl ?_ ?_|refine W3 rfl ?_ ?_|refine W4 ?_ ?_|refine W5 rfl ?_ ?_|refine W6 ?_ ?_|refine WN ?_|refine X1 (W1 rfl ?_ ?_)|refine X1 (W2 rfl ?_ ?_)|refine X2 (W7 rfl ?_ ?_)|refine X3 (W7 rfl ?_ ?_)|refine X4 (W7 rfl ?_ ?_)|refine X5 (W7 rfl ?_ ?_))
    all_goals (try (conv => whnf))
    all_goals (try first|exact obA|refine Ob.mk ?_)
    all_goals trace_state
  ·have := (jM3 s a.pos ‹_›).1
   refine Rnd.mk ⟨⟨a.pos + (jON s a.pos).2,a.spans,a.start⟩,?_,?_,?_⟩
   ·exact jlX ha ‹_› ‹_› (by omega)
   ·simp;omega
   ·repeat' ((conv => whnf);first|(with_reducible first|rfl|exact jKE|exact jKD)|exact True.intro|intro _|refine WA ?_ ?_|refine WF ?_|refine W1 rfl ?_ ?_|refine W2 rfl ?_ ?_|refine W3 rfl ?_ ?_|refine W4 ?_ ?_|refine W5 rfl ?_ ?_|refine W6 ?_ ?_|refine WN ?_|refine X1 (W1 rfl ?_ ?_)|refine X1 (W2 rfl ?_ ?_)|refine X2 (W7 rfl ?_ ?_)|refine X3 (W7 rfl ?_ ?_)|refine X4 (W7 rfl ?_ ?_)|refine X5 (W7 rfl ?_ ?_))
    all_goals (try (conv => whnf))
    all_goals (try first|exact obA|refine Ob.mk ?_)
    all_goals trace_state
  ·skip
   have hh := jg6 ha ‹_› (by omega)
   have hlen : (a.spans ++ [(a.start,(s.length:Int))]).length ≤ s.length + 1 := by simp;omega
   revert hh hlen
   generalize a.spans ++ [(a.start,(s.length:Int))] = sp
   intro hh hlen
   repeat' ((conv => whnf);first|(with_reducible first|rfl|exact jKE|exact jKD)|exact True.intro|intro _|refine WA ?_ ?_|refine WF ?_|refine W1 rfl ?_ ?_|refine W2 rfl ?_ ?_|refine W3 rfl ?_ ?_|refine W4 ?_ ?_|refine W5 rfl ?_ ?_|refine W6 ?_ ?_|refine WN ?_|refine X1 (W1 rfl ?_ ?_)|refine X1 (W2 rfl ?_ ?_)|refine X2 (W7 rfl ?_ ?_)|refine X3 (W7 rfl ?_ ?_)|refine X4 (W7 rfl ?_ ?_)|refine X5 (W7 rfl ?_ ?_))
   all_goals (try (conv => whnf))
   all_goals (try first|exact obA|refine Ob.mk ?_)
   repeat' ((conv => whnf);first|(with_reducible first|rfl|exact jKE|exact jKD)|exact True.intro|intro _|refine WA ?_ ?_|refine WF ?_|refine W1 rfl ?_ ?_|refine W2 rfl ?_ ?_|refine W3 rfl ?_ ?_|refine W4 ?_ ?_|refine W5 rfl ?_ ?_|refine W6 ?_ ?_|refine WN ?_|refine X1 (W1 rfl ?_ ?_)|refine X1 (W2 rfl ?_ ?_)|refine X2 (W7 rfl ?_ ?_)|refine X3 (W7 rfl ?_ ?_)|refine X4 (W7 rfl ?_ ?_)|refine X5 (W7 rfl ?_ ?_))
   all_goals (try (conv => whnf))
   refine LoopStop.mk (α := Nat) (fun i => [(49,.int .i64 i)]) (fun i => [(3,.own .str (fin2 s sp i))]) 20 (fun i => i ≤ sp.length) (fun i => sp.length - i) 0 (by simp) ?_ (fun i hi => ?_)
   ·repeat' ((conv => whnf);first|(with_reducible first|rfl|exact jKE|exact jKD)|exact True.intro|intro _|refine WA ?_ ?_|refine WF ?_|refine W1 rfl ?_ ?_|refine W2 rfl ?_ ?_|refine W3 rfl ?_ ?_|refine W4 ?_ ?_|refine W5 rfl ?_ ?_|refine W6 ?_ ?_|refine WN ?_|refine X1 (W1 rfl ?_ ?_)|refine X1 (W2 rfl ?_ ?_)|refine X2 (W7 rfl ?_ ?_)|refine X3 (W7 rfl ?_ ?_)|refine X4 (W7 rfl ?_ ?_)|refine X5 (W7 rfl ?_ ?_))
    all_goals (try (conv => whnf))
    all_goals (try rfl)
    all_goals trace_state
   ·repeat' ((conv => whnf);first|(with_reducible first|rfl|exact jKE|exact jKD)|exact True.intro|intro _|refine WA ?_ ?_|refine WF ?_|refine W1 rfl ?_ ?_|refine W2 rfl ?_ ?_|refine W3 rfl ?_ ?_|refine W4 ?_ ?_|refine W5 rfl ?_ ?_|refine W6 ?_ ?_|refine WN ?_|refine X1 (W1 rfl ?_ ?_)|refine X1 (W2 rfl ?_ ?_)|refine X2 (W7 rfl ?_ ?_)|refine X3 (W7 rfl ?_ ?_)|refine X4 (W7 rfl ?_ ?_)|refine X5 (W7 rfl ?_ ?_))
    all_goals (try (conv => whnf))
    all_goals (try first|exact obA|refine Ob.mk ?_)
    all_goals (try simp only [ZA,ZB,ZC,ZD,ZE,ZF,ZG,ZH,ZI,ZJ,ZK,ZL,ZM,ZN,ZO,Int.toNat_natCast,UInt8.ofNat_toNat,cast_eq] at *)
    ·exact hh.2 _ (jRG (by omega))
    ·rw [jNQ s sp i hi];omega
    ·rw [jNQ s sp i hi];omega
    ·skip
     have e := jTP s sp i (by omega)
     repeat' ((conv => whnf);first|(with_reducible first|rfl|exact jKE|exact jKD)|exact True.intro|intro _|refine WA ?_ ?_|refine WF ?_|refine W1 rfl ?_ ?_|refine W2 rfl ?_ ?_|refine W3 rfl ?_ ?_|refine W4 ?_ ?_|refine W5 rfl ?_ ?_|refine W6 ?_ ?_|refine WN ?_|refine X1 (W1 rfl ?_ ?_)|refine X1 (W2 rfl ?_ ?_)|refine X2 (W7 rfl ?_ ?_)|refine X3 (W7 rfl ?_ ?_)|refine X4 (W7 rfl ?_ ?_)|refine X5 (W7 rfl ?_ ?_))
     all_goals (try (conv => whnf))
     all_goals (try first|exact obA|refine Ob.mk ?_)
     refine Rnd.mk ⟨i + 1,?_,?_,?_⟩
     ·omega
     ·omega
     ·repeat' ((conv => whnf);first|(with_reducible first|rfl|exact jKE|exact jKD)|exact True.intro|intro _|refine WA ?_ ?_|refine WF ?_|refine W1 rfl ?_ ?_|refine W2 rfl ?_ ?_|refine W3 rfl ?_ ?_|refine W4 ?_ ?_|refine W5 rfl ?_ ?_|refine W6 ?_ ?_|refine WN ?_|refine X1 (W1 rfl ?_ ?_)|refine X1 (W2 rfl ?_ ?_)|refine X2 (W7 rfl ?_ ?_)|refine X3 (W7 rfl ?_ ?_)|refine X4 (W7 rfl ?_ ?_)|refine X5 (W7 rfl ?_ ?_))
      all_goals (try (conv => whnf))
      all_goals (try first|exact obA|refine Ob.mk ?_)
      all_goals (rw [← e];rfl)
    ·rw [jTJ s sp i (by omega),hh.1]
  ·have hh := jiS ha ‹_› (by omega)
   have hlen : a.spans.length ≤ s.length + 1 := by omega
   revert hh hlen
   generalize a.spans = sp
   intro hh hlen
   repeat' ((conv => whnf);first|(with_reducible first|rfl|exact jKE|exact jKD)|exact True.intro|intro _|refine WA ?_ ?_|refine WF ?_|refine W1 rfl ?_ ?_|refine W2 rfl ?_ ?_|refine W3 rfl ?_ ?_|refine W4 ?_ ?_|refine W5 rfl ?_ ?_|refine W6 ?_ ?_|refine WN ?_|refine X1 (W1 rfl ?_ ?_)|refine X1 (W2 rfl ?_ ?_)|refine X2 (W7 rfl ?_ ?_)|refine X3 (W7 rfl ?_ ?_)|refine X4 (W7 rfl ?_ ?_)|refine X5 (W7 rfl ?_ ?_))
   all_goals (try (conv => whnf))
   refine LoopStop.mk (α := Nat) (fun i => [(49,.int .i64 i)]) (fun i => [(2,.own .str (fin2 s sp i))]) 3 (fun i => i ≤ sp.length) (fun i => sp.length - i) 0 (by simp) ?_ (fun i hi => ?_)
   ·repeat' ((conv => whnf);first|(with_reducible first|rfl|exact jKE|exact jKD)|exact True.intro|intro _|refine WA ?_ ?_|refine WF ?_|refine W1 rfl ?_ ?_|refine W2 rfl ?_ ?_|refine W3 rfl ?_ ?_|refine W4 ?_ ?_|refine W5 rfl ?_ ?_|refine W6 ?_ ?_|refine WN ?_|refine X1 (W1 rfl ?_ ?_)|refine X1 (W2 rfl ?_ ?_)|refine X2 (W7 rfl ?_ ?_)|refine X3 (W7 rfl ?_ ?_)|refine X4 (W7 rfl ?_ ?_)|refine X5 (W7 rfl ?_ ?_))
    all_goals (try (conv => whnf))
    all_goals (try rfl)
    all_goals trace_state
   ·repeat' ((conv => whnf);first|(with_reducible first|rfl|exact jKE|exact jKD)|exact True.intro|intro _|refine WA ?_ ?_|refine WF ?_|refine W1 rfl ?_ ?_|refine W2 rfl ?_ ?_|refine W3 rfl ?_ ?_|refine W4 ?_ ?_|refine W5 rfl ?_ ?_|refine W6 ?_ ?_|refine WN ?_|refine X1 (W1 rfl ?_ ?_)|refine X1 (W2 rfl ?_ ?_)|refine X2 (W7 rfl ?_ ?_)|refine X3 (W7 rfl ?_ ?_)|refine X4 (W7 rfl ?_ ?_)|refine X5 (W7 rfl ?_ ?_))
    all_goals (try (conv => whnf))
    all_goals (try first|exact obA|refine Ob.mk ?_)
    all_goals (try simp only [ZA,ZB,ZC,ZD,ZE,ZF,ZG,ZH,ZI,ZJ,ZK,ZL,ZM,ZN,ZO,Int.toNat_natCast,UInt8.ofNat_toNat,cast_eq] at *)
    ·exact hh.2 _ (jRG (by omega))
    ·rw [jNQ s sp i hi];omega
    ·rw [jNQ s sp i hi];omega
    ·skip
     have e := jTP s sp i (by omega)
     repeat' ((conv => whnf);first|(with_reducible first|rfl|exact jKE|exact jKD)|exact True.intro|intro _|refine WA ?_ ?_|refine WF ?_|refine W1 rfl ?_ ?_|refine W2 rfl ?_ ?_|refine W3 rfl ?_ ?_|refine W4 ?_ ?_|refine W5 rfl ?_ ?_|refine W6 ?_ ?_|refine WN ?_|refine X1 (W1 rfl ?_ ?_)|refine X1 (W2 rfl ?_ ?_)|refine X2 (W7 rfl ?_ ?_)|refine X3 (W7 rfl ?_ ?_)|refine X4 (W7 rfl ?_ ?_)|refine X5 (W7 rfl ?_ ?_))
     all_goals (try (conv => whnf))
     all_goals (try first|exact obA|refine Ob.mk ?_)
     refine Rnd.mk ⟨i + 1,?_,?_,?_⟩
     ·omega
     ·omega
     ·repeat' ((conv => whnf);first|(with_reducible first|rfl|exact jKE|exact jKD)|exact True.intro|intro _|refine WA ?_ ?_|refine WF ?_|refine W1 rfl ?_ ?_|refine W2 rfl ?_ ?_|refine W3 rfl ?_ ?_|refine W4 ?_ ?_|refine W5 rfl ?_ ?_|refine W6 ?_ ?_|refine WN ?_|refine X1 (W1 rfl ?_ ?_)|refine X1 (W2 rfl ?_ ?_)|refine X2 (W7 rfl ?_ ?_)|refine X3 (W7 rfl ?_ ?_)|refine X4 (W7 rfl ?_ ?_)|refine X5 (W7 rfl ?_ ?_))
      all_goals (try (conv => whnf))
      all_goals (try first|exact obA|refine Ob.mk ?_)
      all_goals (rw [← e];rfl)
    ·rw [jTJ s sp i (by omega),hh.1]
end Go.Vc.W

/-
 DERIVED: THE SHELF's CONTRACTS AT THIS DUMP,IN PLAIN WORDS (tools/lay-plain.mjs out of 'TryzShelf.lean',which tools/lay-shelf.mjs wrote): THE SAME DECLARATIONS UNDER THE SAME NAMES: 'import', 'namespace', 'open', 'def', 'theorem' AND NOTHING ELSE: no command of the shelf's: FOR A HAND-IN. Each laying: the table of numbers ('.._ren') and one theorem,a field a fact of the dump's own or the kernel's comparison;each contract: ONE APPLICATION.
-/
namespace Go.Proofs
open Go.Shelf
def Tryz.lays156_ren : Go.Shelf.Ren := ⟨fun | 156 => 144 | 165 => 177 | 166 => 178 | 169 => 179 | 240 => 208 | 241 => 209 | 276 => 255 | 277 => 256 | n => n,fun | 31 => 26 | 9 => 9 | 3 => 3 | 4 => 4 | 0 => 0 | 20 => 20 | 72 => 191 | 76 => 195 | 70 => 189 | 37 => 178 | 75 => 194 | 127 => 216 | 164 => 234 | 5 => 5 | 80 => 197 | n => n,fun | n => n⟩
theorem Tryz.lays156 : Go.Proofs.Lays.n156 Tryz.prog Tryz.lays156_ren := {
  mixed := by kernel_rfl
  f156 := Tryz.func144.trans (congrArg some (by kernel_rfl))
  f165 := Tryz.func177.trans (congrArg some (by kernel_rfl))
  f166 := Tryz.func178.trans (congrArg some (by kernel_rfl))
  f169 := Tryz.func179.trans (congrArg some (by kernel_rfl))
  f240 := Tryz.func208.trans (congrArg some (by kernel_rfl))
  f241 := Tryz.func209.trans (congrArg some (by kernel_rfl))
  f276 := Tryz.func255.trans (congrArg some (by kernel_rfl))
  f277 := Tryz.func256.trans (congrArg some (by kernel_rfl))
  t0 := Tryz.underlying0
  a0 := Tryz.isAgg0
  z0 := Tryz.sizeOf0
  v0 := Tryz.zeroValue0
  t3 := Tryz.underlying3
  a3 := Tryz.isAgg3
  z3 := Tryz.sizeOf3
  v3 := Tryz.zeroValue3
  t4 := Tryz.underlying4
  a4 := Tryz.isAgg4
  z4 := Tryz.sizeOf4
  v4 := Tryz.zeroValue4
  t9 := Tryz.underlying9
  a9 := Tryz.isAgg9
  z9 := Tryz.sizeOf9
  v9 := Tryz.zeroValue9
  t20 := Tryz.underlying20
  a20 := Tryz.isAgg20
  z20 := Tryz.sizeOf20
  v20 := Tryz.zeroValue20
  t31 := Tryz.underlying26
  a31 := Tryz.isAgg26
  z31 := Tryz.sizeOf26
  v31 := Tryz.zeroValue26
  t37 := Tryz.underlying178
  a37 := Tryz.isAgg178
  z37 := Tryz.sizeOf178
  v37 := Tryz.zeroValue178
  t70 := Tryz.underlying189
  a70 := Tryz.isAgg189
  z70 := Tryz.sizeOf189
  v70 := Tryz.zeroValue189
  t72 := Tryz.underlying191
  a72 := Tryz.isAgg191
  z72 := Tryz.sizeOf191
  v72 := Tryz.zeroValue191
  t75 := Tryz.underlying194
  a75 := Tryz.isAgg194
  z75 := Tryz.sizeOf194
  v75 := Tryz.zeroValue194
  t76 := Tryz.underlying195
  a76 := Tryz.isAgg195
  z76 := Tryz.sizeOf195
  v76 := Tryz.zeroValue195
  t127 := Tryz.underlying216
  a127 := Tryz.isAgg216
  z127 := Tryz.sizeOf216
  v127 := Tryz.zeroValue216
  t164 := Tryz.underlying234
  a164 := Tryz.isAgg234
  z164 := Tryz.sizeOf234
  v164 := Tryz.zeroValue234 }
theorem Tryz.Builder_Extra_156 : Builder.Extra Tryz.prog Tryz.lays156_ren := {
  sizeBuilder := by kernel_rfl
  liesBuilder := by kernel_rfl
  t5 := Tryz.underlying5
  a5 := Tryz.isAgg5
  z5 := Tryz.sizeOf5
  v5 := Tryz.zeroValue5
  infoByte := by kernel_rfl
  cellsByte := by kernel_rfl
  sizeByte := by kernel_rfl
  neB5 := by decide }
open Go.RowKit in
theorem Tryz.strings_Join_none (a : Option Addr) (c : Nat) (sep : ByteArray) (w : World) :
  Calls Tryz.prog 144 #[.slice a 0 c,.string sep] w fun e w' => e = .returned (.string ⟨#[]⟩) ∧ w' = w := Any.strings_Join_none Tryz.lays156 Tryz.Builder_Extra_156 a c sep w
open Go.RowKit in
theorem Tryz.strings_Join (bk o c : Nat) (xs : List ByteArray) (sep : ByteArray) (w : World) (hcells : ∀ (j : Nat) x,xs[j]? = some x → w.cell? ⟨bk,o + j,none⟩ = some (.string x)) (hbk : bk < w.heap.size) (hN : xs.length ≤ 140737488355328) (hcap : xs.length ≤ c) (hlen : (Lib.join (xs.map (·.data.toList)) sep.data.toList).length ≤ 140737488355328) :
  Calls Tryz.prog 144 #[.slice (some ⟨bk,o,none⟩) xs.length c,.string sep] w fun e w' => e = .returned (.string ⟨(Lib.join (xs.map (·.data.toList)) sep.data.toList).toArray⟩) ∧ Below w.heap.size w w' := Any.strings_Join Tryz.lays156 Tryz.Builder_Extra_156 bk o c xs sep w hcells hbk hN hcap hlen
def Tryz.lays219_ren : Go.Shelf.Ren := ⟨fun | 219 => 172 | 217 => 203 | 225 => 204 | 224 => 205 | 267 => 206 | 266 => 253 | 314 => 254 | n => n,fun | 9 => 9 | 3 => 3 | 4 => 4 | 5 => 5 | 46 => 214 | 146 => 232 | 51 => 231 | n => n,fun | 1 => 0 | n => n⟩
def Tryz.lays143_ren : Go.Shelf.Ren := ⟨fun | 143 => 137 | 219 => 172 | 217 => 203 | 225 => 204 | 224 => 205 | 267 => 206 | 266 => 253 | 314 => 254 | n => n,fun | 9 => 9 | 3 => 3 | 4 => 4 | 5 => 5 | 46 => 214 | 146 => 232 | 51 => 231 | n => n,fun | 1 => 0 | n => n⟩
theorem Tryz.lays143 : Go.Proofs.Lays.n143 Tryz.prog Tryz.lays143_ren := {
  mixed := by kernel_rfl
  f143 := Tryz.func137.trans (congrArg some (by kernel_rfl))
  f217 := Tryz.func203.trans (congrArg some (by kernel_rfl))
  f219 := Tryz.func172.trans (congrArg some (by kernel_rfl))
  f224 := Tryz.func205.trans (congrArg some (by kernel_rfl))
  f225 := Tryz.func204.trans (congrArg some (by kernel_rfl))
  f266 := Tryz.func253.trans (congrArg some (by kernel_rfl))
  f267 := Tryz.func206.trans (congrArg some (by kernel_rfl))
  f314 := Tryz.func254.trans (congrArg some (by kernel_rfl))
  t3 := Tryz.underlying3
  a3 := Tryz.isAgg3
  z3 := Tryz.sizeOf3
  v3 := Tryz.zeroValue3
  t4 := Tryz.underlying4
  a4 := Tryz.isAgg4
  z4 := Tryz.sizeOf4
  v4 := Tryz.zeroValue4
  t5 := Tryz.underlying5
  a5 := Tryz.isAgg5
  z5 := Tryz.sizeOf5
  v5 := Tryz.zeroValue5
  t9 := Tryz.underlying9
  a9 := Tryz.isAgg9
  z9 := Tryz.sizeOf9
  v9 := Tryz.zeroValue9
  t46 := Tryz.underlying214
  a46 := Tryz.isAgg214
  z46 := Tryz.sizeOf214
  v46 := Tryz.zeroValue214
  t51 := Tryz.underlying231
  a51 := Tryz.isAgg231
  z51 := Tryz.sizeOf231
  v51 := Tryz.zeroValue231
  t146 := Tryz.underlying232
  a146 := Tryz.isAgg232
  z146 := Tryz.sizeOf232
  v146 := Tryz.zeroValue232
  g1 := by kernel_rfl }
open Go.RowKit Go.Lib in
theorem Tryz.strings_Index (s sub : ByteArray) (m : Int) (w : World) (hs : s.size < 4294967281) (hm : w.cell? ⟨0,0,none⟩ = some (.int .i64 m)) :
  Calls Tryz.prog 137 #[.string s,.string sub] w fun e w' => e = .returned (.int .i64 (Lib.index s.data.toList sub.data.toList)) ∧ w' = w := Any.strings_Index Tryz.lays143 s sub m w hs hm
end Go.Proofs

namespace Go.Vc.W
open Go.Proofs
set_option maxRecDepth 10000
instance f33 (s : List UInt8) : Fn BB 102 [.str s] (s.length ≤ 100000) (.rd .str (spl s)) := by
 refine Fn.intro (N := 5) [0,2] [] Tryz.call102 Tryz.func102 rfl rfl (by kernel_rfl) (fun hpre => ?_)
 all_goals exact vcA
instance f30 (s t : List UInt8) : Fn BB 137 [.str s,.str t] (s.length ≤ 4294967280) (.int .i64 (Lib.index s t)) := by
 refine Fn.lift Tryz.call137 fun hp r β w vs hG m hl => ?_
 obtain ⟨rfl,h1,h2⟩ := hl.str2
 obtain ⟨c,T,fr,mm,e1,e2⟩ := hG
 have e3 := m.vis 0 _ e1
 exact ⟨_,Tryz.strings_Index ⟨s.toArray⟩ ⟨t.toArray⟩ mm w (by show s.toArray.size < _;simp;omega) (by simp [World.cell?,e3,e2]),.int⟩
end Go.Vc.W

namespace Go.Vc.W
open Go.Proofs
set_option maxRecDepth 10000
def jqP (s w : List UInt8) (j : Nat) : Prop := Lib.occAt s w j = true ∧ (j = 0 ∨ isSp (s.getD (j-1) 0).toNat = true) ∧ (j + w.length = s.length ∨ isSp (s.getD (j + w.length) 0).toNat = true)
def NoB (s w : List UInt8) (a : Nat) : Prop := ∀ j,j < a → ¬ jqP s w j
theorem jiE (s : List UInt8) (j i : Nat) (h : j ≤ i) (h2 : i ≤ s.length) : Lib.occAt s (cut s (j,i)) j = true := by
 unfold Lib.occAt cut
 rw [List.isPrefixOf_iff_prefix]
 simp only [Int.toNat_natCast]
 rw [List.drop_take]
 exact List.take_prefix _ _
theorem jgN (s : List UInt8) (j i : Nat) (h : j ≤ i) (h2 : i ≤ s.length) : (cut s (j,i)).length = i - j := by
 simp [cut];omega
theorem jeI (s : List UInt8) (i : Nat) (h : i ≤ s.length) :
  (∀ x ∈ (jNW s i).1,¬ x = [] ∧ ∃ j,jqP s x j) ∧ ∃ j,j ≤ i ∧ (jNW s i).2 = cut s ((j:Nat),(i:Nat)) ∧ (j = 0 ∨ isSp (s.getD (j-1) 0).toNat = true) := by
 induction i with
 | zero => exact ⟨by simp [jNW],0,by simp,by simp [jNW,cut],Or.inl rfl⟩
 | succ i ih =>
  obtain ⟨ih1,j,hj,e,hb⟩ := ih (by omega)
  have es := jLH s i (by omega)
  cases hc : isSp (s.getD i 0).toNat with
  | false =>
   rw [jPO hc] at es
   rw [es]
   exact ⟨ih1,j,by omega,by rw [jTN s j i hj (by omega), ← e],hb⟩
  | true =>
   by_cases h2 : (jNW s i).2 = []
   ·rw [jO1 hc h2] at es
    rw [es]
    exact ⟨ih1,i + 1,by omega,by simp [cut],Or.inr (by simpa using hc)⟩
   ·rw [jN2 hc h2] at es
    rw [es]
    refine ⟨fun x hx => ?_,i + 1,by omega,by simp [cut],Or.inr (by simpa using hc)⟩
    rcases List.mem_append.mp hx with hx | hx
    ·exact ih1 x hx
    ·simp only [List.mem_singleton] at hx
     subst hx
     refine ⟨h2,j,?_⟩
     rw [e]
     refine ⟨jiE s j i hj (by omega),hb,Or.inr ?_⟩
     rw [jgN s j i hj (by omega)]
     have : j + (i - j) = i := by omega
     rw [this];exact hc
theorem jaP (s x : List UInt8) (h : (spl s).contains x = true) : ¬ x = [] ∧ ∃ j,jqP s x j := by
 have hx : x ∈ spl s := by simpa using h
 obtain ⟨h1,j,hj,e,hb⟩ := jeI s s.length (Nat.le_refl _)
 by_cases h2 : (jNW s s.length).2 = []
 ·rw [jhZ (Nat.le_refl _) h2] at hx;exact h1 x hx
 ·rw [ji8 (Nat.le_refl _) h2] at hx
  rcases List.mem_append.mp hx with hx | hx
  ·exact h1 x hx
  ·simp only [List.mem_singleton] at hx
   subst hx
   refine ⟨h2,j,?_⟩
   rw [e]
   refine ⟨jiE s j _ hj (Nat.le_refl _),hb,Or.inl ?_⟩
   rw [jgN s j _ hj (Nat.le_refl _)];omega
theorem jhV (s x : List UInt8) (h : x = []) : (spl s).contains x = false := by
 cases e : (spl s).contains x with
 | false => rfl
 | true => exact absurd h (jaP s x e).1
theorem jmZ (s x : List UInt8) (n : Nat) (hn : s.length ≤ n) (h0 : ¬ x = []) (h : NoB s x n) : (spl s).contains x = false := by
 cases e : (spl s).contains x with
 | false => rfl
 | true =>
  obtain ⟨j,hj⟩ := (jaP s x e).2
  rcases Lib.occAt_room hj.1 with k | k
  ·have : 0 < x.length := List.length_pos_iff.mpr h0
   exact absurd hj (h j (by omega))
  ·exact absurd k h0
theorem least (f : Nat → Bool) (n : Nat) (h : f n = true) : ∃ m,f m = true ∧ ∀ j,j < m → f j = false := by
 induction n using Nat.strongRecOn with
 | _ n ih =>
  by_cases hh : ∃ j,j < n ∧ f j = true
  ·obtain ⟨j,h1,h2⟩ := hh
   exact ih j h1 h2
  ·refine ⟨n,h,fun j hj => ?_⟩
   cases e : f j with
   | false => rfl
   | true => exact absurd ⟨j,hj,e⟩ hh
theorem ixs (s w : List UInt8) (i : Nat) (hi : i ≤ s.length) (h0 : ¬ w = []) :
  (Lib.index (s.drop i) w = -1 ∧ ∀ j,i ≤ j → Lib.occAt s w j = false) ∨
  ∃ p : Nat,Lib.index (s.drop i) w = p ∧ i + p + w.length ≤ s.length ∧ Lib.occAt s w (i + p) = true ∧ ∀ j,i ≤ j → j < i + p → Lib.occAt s w j = false := by
 have sh : ∀ q,Lib.occAt (s.drop i) w q = Lib.occAt s w (i + q) := fun q => by simp [Lib.occAt,List.drop_drop]
 by_cases hh : ∃ q,Lib.occAt (s.drop i) w q = true
 ·right
  obtain ⟨q,hq⟩ := hh
  obtain ⟨p,hd,hm⟩ := least _ q hq
  refine ⟨p,?_⟩
  have hr : i + p + w.length ≤ s.length := by
   rcases Lib.occAt_room hd with k | k
   ·have : 0 < w.length := List.length_pos_iff.mpr h0
    simp at k;omega
   ·exact absurd k h0
  refine ⟨Lib.index_first (by simp;omega) hd hm,hr,by rw [← sh];exact hd,fun j h1 h2 => ?_⟩
  have := hm (j - i) (by omega)
  rw [sh] at this
  have e : i + (j - i) = j := by omega
  rwa [e] at this
 ·left
  have hm : ∀ q,Lib.occAt (s.drop i) w q = false := fun q => by
   cases e : Lib.occAt (s.drop i) w q with
   | false => rfl
   | true => exact absurd ⟨q,e⟩ hh
  refine ⟨Lib.index_none fun j _ => hm j,fun j h1 => ?_⟩
  have := hm (j - i)
  rw [sh] at this
  have e : i + (j - i) = j := by omega
  rwa [e] at this
end Go.Vc.W

namespace Go.Vc.W
open Go.Proofs
set_option maxRecDepth 10000
theorem jkY (l : List (List UInt8)) (w : List UInt8) : decide (jXQ l w ≥ 0) = l.contains w := by
 unfold jXQ
 cases h : l.contains w <;> simp
theorem jkT {s w : List UInt8} {i p : Nat} (h : NoB s w i) (hp : ∀ j,i ≤ j → j < i + p → Lib.occAt s w j = false) (hb : ¬ jqP s w (i + p)) : NoB s w (i + p + 1) := by
 intro j hj
 by_cases h1 : j < i
 ·exact h j h1
 ·by_cases h2 : j < i + p
  ·intro e;have := hp j (by omega) h2;rw [e.1] at this;cases this
  ·have : j = i + p := by omega
   subst this;exact hb
theorem joE {s w : List UInt8} {i : Nat} (h : NoB s w i) (hp : ∀ j,i ≤ j → Lib.occAt s w j = false) (n : Nat) : NoB s w n := by
 intro j hj
 by_cases h1 : j < i
 ·exact h j h1
 ·intro e;have := hp j (by omega);rw [e.1] at this;cases this
instance f26 (s w : List UInt8) : Fn BB 84 [.str s,.str w] (s.length ≤ 100000 ∧ w.length ≤ 100000) (.bool ((spl s).contains w)) := by
  refine Fn.intro (N := 52) [0,1,4,5,6,7,8,10,17,45] [] Tryz.call84 Tryz.func84 rfl rfl (by kernel_rfl) (fun hpre => ?_)
  repeat' ((conv => whnf);first|(with_reducible first|rfl|exact jKE|exact jKD)|exact True.intro|intro _|refine WA ?_ ?_|refine WF ?_|refine W1 rfl ?_ ?_|refine W2 rfl ?_ ?_|refine W3 rfl ?_ ?_|refine W4 ?_ ?_|refine W5 rfl ?_ ?_|refine W6 ?_ ?_|refine WN ?_|refine X1 (W1 rfl ?_ ?_)|refine X1 (W2 rfl ?_ ?_)|refine X2 (W7 rfl ?_ ?_)|refine X3 (W7 rfl ?_ ?_)|refine X4 (W7 rfl ?_ ?_)|refine X5 (W7 rfl ?_ ?_))
  all_goals (try (conv => whnf))
  all_goals (try first|exact obA|refine Ob.mk ?_)
  · rw [jhV s w (by simpa using ‹(w == []) = true›)]
  · have h0 : ¬ w = [] := by simpa using ‹(w == []) = false›
    refine LoopStop.mk (α := Nat) (fun i => [(5,.int .i64 i)]) (fun i => []) 0 (fun i => i ≤ s.length ∧ NoB s w i) (fun i => s.length + 1 - i) 0 ⟨by omega,fun j hj => absurd hj (by omega)⟩ ?_ (fun i hi => ?_)
    · repeat' ((conv => whnf);first|(with_reducible first|rfl|exact jKE|exact jKD)|exact True.intro|intro _|refine WA ?_ ?_|refine WF ?_|refine W1 rfl ?_ ?_|refine W2 rfl ?_ ?_|refine W3 rfl ?_ ?_|refine W4 ?_ ?_|refine W5 rfl ?_ ?_|refine W6 ?_ ?_|refine WN ?_|refine X1 (W1 rfl ?_ ?_)|refine X1 (W2 rfl ?_ ?_)|refine X2 (W7 rfl ?_ ?_)|refine X3 (W7 rfl ?_ ?_)|refine X4 (W7 rfl ?_ ?_)|refine X5 (W7 rfl ?_ ?_))
      all_goals (try (conv => whnf))
      all_goals (try rfl)
    · have hx := ixs s w i hi.1 h0
      have hl0 : 0 < w.length := List.length_pos_iff.mpr h0
      repeat' ((conv => whnf);first|(with_reducible first|rfl|exact jKE|exact jKD)|exact True.intro|intro _|refine WA ?_ ?_|refine WF ?_|refine W1 rfl ?_ ?_|refine W2 rfl ?_ ?_|refine W3 rfl ?_ ?_|refine W4 ?_ ?_|refine W5 rfl ?_ ?_|refine W6 ?_ ?_|refine WN ?_|refine X1 (W1 rfl ?_ ?_)|refine X1 (W2 rfl ?_ ?_)|refine X2 (W7 rfl ?_ ?_)|refine X3 (W7 rfl ?_ ?_)|refine X4 (W7 rfl ?_ ?_)|refine X5 (W7 rfl ?_ ?_))
      all_goals (try (conv => whnf))
      all_goals (try simp only [ZA,ZB,ZC,ZD,ZE,ZF,ZG,ZH,ZI,ZJ,ZK,ZL,ZM,ZN,ZO,Int.toNat_natCast,UInt8.ofNat_toNat,cast_eq] at *)
      all_goals (rcases hx with ⟨hx,hx2⟩ | ⟨p,hx,hx1,hx2,hx3⟩)
      all_goals (try (exfalso;omega))
      all_goals (try first|exact obA|refine Ob.mk ?_)
      · rw [jmZ s w s.length (Nat.le_refl _) h0 (joE hi.2 hx2 _)]
      · rw [jkY]
      · have hb : ¬ jqP s w (i + p) := by
          rintro ⟨b1,b2,b3⟩
          have e1 : ((i:Int) + (p:Int) - 1).toNat = i + p - 1 := by omega
          have e2 : ((i:Int) + (p:Int) + (w.length:Int)).toNat = i + p + w.length := by omega
          rename_i hc _ _
          rw [hx,e1,e2] at hc
          simp only [Bool.and_eq_false_iff,Bool.or_eq_false_iff,beq_eq_false_iff_ne] at hc
          rcases hc with ⟨c1,c2⟩ | ⟨c1,c2⟩
          · rcases b2 with b2 | b2
            · omega
            · rw [b2] at c2;cases c2
          · rcases b3 with b3 | b3
            · omega
            · rw [b3] at c2;cases c2
        refine Rnd.mk ⟨i + p + 1,?_,?_,?_⟩
        · exact ⟨by omega,jkT hi.2 hx3 hb⟩
        · omega
        · all_goals exact vcA
end Go.Vc.W

namespace Go.Vc
open Go.Proofs
open Go.Vc.W
set_option maxRecDepth 10000
set_option maxHeartbeats 4000000
theorem jkG {α : Type} {κ : KTy} {k : κ.T} {v : α} : ∀ {l : List (κ.T × α)},jO0 κ l k = some v → (k,v) ∈ l := by
 intro l
 induction l with
 | nil => intro h;cases h
 | cons x r ih =>
  intro h
  obtain ⟨k',v'⟩ := x
  unfold jO0 at h
  cases hb : κ.beq k k' with
  | true =>
   rw [hb] at h
   cases h
   rw [(jTL k k').1 hb]
   exact List.mem_cons_self
  | false =>
   rw [hb] at h
   exact List.mem_cons_of_mem _ (ih h)
theorem jgU {α : Type} {κ : KTy} {k : κ.T} : ∀ {l : List (κ.T × α)},(∀ p ∈ l,p.1 ≠ k) → jO0 κ l k = none := by
 intro l
 induction l with
 | nil => intro h;rfl
 | cons x r ih =>
  intro h
  obtain ⟨k',v'⟩ := x
  unfold jO0
  cases hb : κ.beq k k' with
  | true => exact absurd ((jTL k k').1 hb).symm (h _ List.mem_cons_self)
  | false => exact ih fun p hp => h p (List.mem_cons_of_mem _ hp)
theorem jn1 {nm o : List UInt8} (h : jO0 .w jf4 nm = some o) : o.length ≤ 1000 := by
 have key : ∀ p ∈ jf4,p.2.length ≤ 1000 := by decide
 exact key _ (jkG h)
instance kOwn : FnM BB 145 [] [] True (.mref 0) [(0,.mp .w .str jf4)] := by
 refine FnM.intro (N := 12) [0] [] 0 Tryz.call145 Tryz.func145 rfl rfl (by kernel_rfl) (fun hpre => ?_)
 repeat' ((conv => whnf);first|(with_reducible first|rfl|exact jKE|exact jKD)|exact True.intro|intro _|refine WA ?_ ?_|refine WF ?_|refine W1 rfl ?_ ?_|refine W2 rfl ?_ ?_|refine W3 rfl ?_ ?_|refine W4 ?_ ?_|refine W5 rfl ?_ ?_|refine W6 ?_ ?_|refine WN ?_|refine X1 (W1 rfl ?_ ?_)|refine X1 (W2 rfl ?_ ?_)|refine X2 (W7 rfl ?_ ?_)|refine X3 (W7 rfl ?_ ?_)|refine X4 (W7 rfl ?_ ?_)|refine X5 (W7 rfl ?_ ?_))
 all_goals (try (conv => whnf))
 all_goals (try first|exact obA|refine Ob.mk ?_)
 exact congrArg (Chunk.mp KTy.w Ty.str) (by kernel_rfl)
def jXZ (s : Int) (nn nm : List UInt8) : Bool := if nm = vbT ∨ nm = jp8 then s == 1 else if nm = kBA then s == 2 && nn == axT else true
def jP6 (k s : Int) (nn nm : List UInt8) : Bool :=
 k == 1 && match jO0 (α := List UInt8) .w jf4 nm with
 | some o => s == 0 && (spl o).contains nn
 | none => jXZ s nn nm
theorem jdS {k s : Int} {nn nm : List UInt8} (h : ¬ k = 1) : jP6 k s nn nm = false := by rw [jP6,beq_eq_false_iff_ne.mpr h];rfl
theorem jhM {s : Int} {nn nm o : List UInt8} (h : jO0 .w jf4 nm = some o) : jP6 1 s nn nm = (s == 0 && (spl o).contains nn) := by
 rw [jP6,h];rfl
theorem jlP {s : Int} {nn nm : List UInt8} (h : jO0 (α := List UInt8) .w jf4 nm = none) : jP6 1 s nn nm = jXZ s nn nm := by
 rw [jP6,h];rfl
theorem jgW {s : Int} {nn nm : List UInt8} (h : nm = vbT ∨ nm = jp8) : jXZ s nn nm = (s == 1) := by rw [jXZ,if_pos h]
theorem jlV {s : Int} {nn : List UInt8} : jXZ s nn kBA = (s == 2 && nn == axT) := by
 rw [jXZ,if_neg (by decide),if_pos rfl]
theorem jmB {s : Int} {nn nm : List UInt8} (h1 : ¬ nm = vbT) (h2 : ¬ nm = jp8) (h3 : ¬ nm = kBA) : jXZ s nn nm = true := by
 rw [jXZ,if_neg (by rintro (h | h) <;> contradiction),if_neg h3]
instance kFits (k s : Int) (nn : List UInt8) (at_ : List jKP.T) (dt : List UInt8) (up : Int) (kids : List Int) (nm : List UInt8) :
  Fn BB 99 [.agg [.int .i64 k,.int .i64 s,.str nn,.rd jKP at_,.str dt,.int .i64 up,.rd jKG kids],.str nm] (nn.length ≤ 1000) (.bool (jP6 k s nn nm)) := by
 refine Fn.intro (N := 44) [0,1,2,4,5,6,9,16,27,28,34] [] Tryz.call99 Tryz.func99 rfl rfl (by kernel_rfl) (fun hpre => ?_)
 repeat' ((conv => whnf);first|(with_reducible first|rfl|exact jKE|exact jKD)|exact True.intro|intro _|refine WA ?_ ?_|refine WF ?_|refine W1 rfl ?_ ?_|refine W2 rfl ?_ ?_|refine W3 rfl ?_ ?_|refine W4 ?_ ?_|refine W5 rfl ?_ ?_|refine W6 ?_ ?_|refine WN ?_|refine X1 (W1 rfl ?_ ?_)|refine X1 (W2 rfl ?_ ?_)|refine X2 (W7 rfl ?_ ?_)|refine X3 (W7 rfl ?_ ?_)|refine X4 (W7 rfl ?_ ?_)|refine X5 (W7 rfl ?_ ?_))
 all_goals (try (conv => whnf))
 all_goals (try first|exact obA|refine Ob.mk ?_)
 all_goals (try simp only [ZA,ZB,ZC,ZD,ZE,ZF,ZG,ZH,ZI,ZJ,ZK,ZL,ZM,ZN,ZO,Bool.and_eq_false_iff,Bool.or_eq_false_iff,ge_iff_le,gt_iff_lt,Int.toNat_natCast,UInt8.ofNat_toNat,cast_eq] at *)
 all_goals (try contradiction)
 all_goals (try (rw [jdS ‹_›];done))
 all_goals (have hk : k = 1 := ‹_›;subst hk)
 ·obtain ⟨o,ho⟩ := Option.isSome_iff_exists.1 ‹_›
  rw [ho]
  have := jn1 ho
  exact ⟨by show o.length ≤ _;omega,by omega⟩
 ·obtain ⟨o,ho⟩ := Option.isSome_iff_exists.1 ‹_›
  rw [jhM ho,ho];rfl
 all_goals (have hn : jO0 (α := List UInt8) .w jf4 nm = none := Option.isSome_eq_false_iff.1 ‹_› |> Option.isNone_iff_eq_none.1)
 all_goals rw [jlP hn]
 ·subst ‹nm = _›;exact (jgW (nm := vbT) (.inl rfl)).symm
 ·subst ‹nm = _›;exact (jgW (nm := jp8) (.inr rfl)).symm
 ·subst ‹nm = _›;exact jlV.symm
 ·exact (jmB ‹_› ‹_› ‹_›).symm
theorem jg4 : ∀ i < 9,∃ o,jO0 .w jf4 (rnT.getD i []) = some o ∧ (spl (reT.getD i [])).isPerm (spl o) = true ∧ (reT.getD i []).length ≤ 1000 := by
 intro i hi
 match i,hi with
 | 0,_ => exact ⟨_,rfl,by decide +kernel,by decide⟩
 | 1,_ => exact ⟨_,rfl,by decide +kernel,by decide⟩
 | 2,_ => exact ⟨_,rfl,by decide +kernel,by decide⟩
 | 3,_ => exact ⟨_,rfl,by decide +kernel,by decide⟩
 | 4,_ => exact ⟨_,rfl,by decide +kernel,by decide⟩
 | 5,_ => exact ⟨_,rfl,by decide +kernel,by decide⟩
 | 6,_ => exact ⟨_,rfl,by decide +kernel,by decide⟩
 | 7,_ => exact ⟨_,rfl,by decide +kernel,by decide⟩
 | 8,_ => exact ⟨_,rfl,by decide +kernel,by decide⟩
 | n + 9,h => omega
theorem jjY {nm : List UInt8} (h : ∀ i < 9,rnT.getD i [] ≠ nm) : jO0 (α := List UInt8) .w jf4 nm = none := by
 refine jgU fun p hp e => ?_
 have key : ∀ p ∈ jf4,∃ i,i < 9 ∧ rnT.getD i [] = p.1 := by
  have : ∀ p ∈ jf4,(List.range 9).any (fun i => rnT.getD i [] == p.1) = true := by decide +kernel
  intro p hp
  obtain ⟨i,hi,hh⟩ := List.any_eq_true.1 (this p hp)
  exact ⟨i,List.mem_range.1 hi,by simpa using hh⟩
 obtain ⟨i,hi,hh⟩ := key p hp
 exact h i hi (hh.trans e)
theorem jlJ {a b : List (List UInt8)} (h : a.isPerm b = true) (w : List UInt8) : a.contains w = b.contains w := by
 rw [Bool.eq_iff_iff,List.contains_iff_mem,List.contains_iff_mem]
 exact (List.isPerm_iff.1 h).mem_iff
instance kRFits (k s : Int) (nn : List UInt8) (at_ : List jKP.T) (dt : List UInt8) (up : Int) (kids : List Int) (nm : List UInt8) :
  Fn BB 100 [.agg [.int .i64 k,.int .i64 s,.str nn,.rd jKP at_,.str dt,.int .i64 up,.rd jKG kids],.str nm] (nn.length ≤ 1000) (.bool (jP6 k s nn nm)) := by
 refine Fn.intro (N := 58) [0,1,2,4,5,6,7,12,16,24,42] [(9,[0,1,1,1,1,1,1,1,1,1,3,3,3])] Tryz.call100 Tryz.func100 rfl rfl (by kernel_rfl) (fun hpre => ?_)
 repeat' ((conv => whnf);first|(with_reducible first|rfl|exact jKE|exact jKD)|exact True.intro|intro _|refine WA ?_ ?_|refine WF ?_|refine W1 rfl ?_ ?_|refine W2 rfl ?_ ?_|refine W3 rfl ?_ ?_|refine W4 ?_ ?_|refine W5 rfl ?_ ?_|refine W6 ?_ ?_|refine WN ?_|refine X1 (W1 rfl ?_ ?_)|refine X1 (W2 rfl ?_ ?_)|refine X2 (W7 rfl ?_ ?_)|refine X3 (W7 rfl ?_ ?_)|refine X4 (W7 rfl ?_ ?_)|refine X5 (W7 rfl ?_ ?_))
 all_goals (try (conv => whnf))
 all_goals (try first|exact obA|refine Ob.mk ?_)
 all_goals (try simp only [ZA,ZB,ZC,ZD,ZE,ZF,ZG,ZH,ZI,ZJ,ZK,ZL,ZM,ZN,ZO,Bool.and_eq_false_iff,Bool.or_eq_false_iff,ge_iff_le,gt_iff_lt,Int.toNat_natCast,UInt8.ofNat_toNat,cast_eq] at *)
 all_goals (try contradiction)
 all_goals (try (rw [jdS ‹_›];done))
 all_goals (have hk : k = 1 := ‹_›;subst hk)
 ·refine LoopStop.mk (α := Nat) (fun i => [(7,.int .i64 i)]) (fun _ => []) 20 (fun i => i ≤ 9 ∧ ∀ j < i,rnT.getD j [] ≠ nm) (fun i => 9 - i) 0 ⟨by omega,fun j hj => absurd hj (Nat.not_lt_zero _)⟩ ?_ (fun i hi => ?_)
  ·all_goals exact vcA
  ·obtain ⟨hi,ha⟩ := hi
   repeat' ((conv => whnf);first|(with_reducible first|rfl|exact jKE|exact jKD)|exact True.intro|intro _|refine WA ?_ ?_|refine WF ?_|refine W1 rfl ?_ ?_|refine W2 rfl ?_ ?_|refine W3 rfl ?_ ?_|refine W4 ?_ ?_|refine W5 rfl ?_ ?_|refine W6 ?_ ?_|refine WN ?_|refine X1 (W1 rfl ?_ ?_)|refine X1 (W2 rfl ?_ ?_)|refine X2 (W7 rfl ?_ ?_)|refine X3 (W7 rfl ?_ ?_)|refine X4 (W7 rfl ?_ ?_)|refine X5 (W7 rfl ?_ ?_))
   all_goals (try (conv => whnf))
   all_goals (try first|exact obA|refine Ob.mk ?_)
   all_goals (try simp only [ZA,ZB,ZC,ZD,ZE,ZF,ZG,ZH,ZI,ZJ,ZK,ZL,ZM,ZN,ZO,Bool.and_eq_false_iff,Bool.or_eq_false_iff,ge_iff_le,gt_iff_lt,Int.toNat_natCast,UInt8.ofNat_toNat,cast_eq] at *)
   all_goals (try (have q9 : (i : Int) < 9 := by assumption))
   all_goals (try (have q9 : ¬ (i : Int) < 9 := by assumption))
   all_goals (try (have q8 : rnT.getD i [] = nm := by assumption))
   all_goals (try (have q8 : ¬ rnT.getD i [] = nm := by assumption))
   ·exact ⟨by omega,by show (i : Int) < 9;exact q9⟩
   ·show i < 9;omega
   ·obtain ⟨o,h1,h2,h3⟩ := jg4 i (by omega)
    have h3 : (reT.getD i []).length ≤ 1000 := h3
    show (reT.getD i []).length ≤ 100000
    omega
   ·obtain ⟨o,h1,h2,h3⟩ := jg4 i (by omega)
    rw [q8] at h1
    rw [jhM h1, ← jlJ h2 nn];rfl
   ·refine Rnd.mk ⟨i + 1,⟨by omega,fun j hj => ?_⟩,by omega,?_⟩
    ·rcases Nat.lt_or_ge j i with q | q
     ·exact ha j q
     ·obtain rfl : j = i := by omega
      exact q8
    ·all_goals exact vcA
   all_goals (have hge : (9 : Int) ≤ (i : Int) := by assumption)
   all_goals (have hn : jO0 (α := List UInt8) .w jf4 nm = none := jjY fun j hj => ha j (by omega))
   all_goals rw [jlP hn]
   ·exact (jgW (nm := nm) ‹_›).symm
   ·obtain ⟨r1,r2⟩ : ¬ nm = vbT ∧ ¬ nm = jp8 := ‹_›
    by_cases r3 : nm = kBA
    ·rw [r3,jlV];rfl
    ·rw [jmB r1 r2 r3,show (nm == [101,110,99,111,100,105,110,103]) = false from beq_eq_false_iff_ne.mpr r3];rfl
end Go.Vc

namespace Go.Vc
open Go.Proofs
set_option maxRecDepth 10000
abbrev jKH := jKA.T
abbrev jKH.up (n : jKH) : Int := n.2.2.2.2.2.1
abbrev jKH.kids (n : jKH) : List Int := n.2.2.2.2.2.2
def isT (l : List jKH) (i : Int) : Bool := decide (0 ≤ i) && decide (i < l.length)
end Go.Vc

namespace Go.Vc
open Go.Proofs
set_option maxRecDepth 10000
theorem take_snoc {α : Type} (l : List α) (i : Nat) (d : α) (h : i < l.length) : l.take (i + 1) = l.take i ++ [l.getD i d] := by
 rw [List.take_succ_eq_append_getElem h];simp [List.getD,List.getElem?_eq_getElem h]
theorem jWA {α : Type} (p : α → Bool) (l : List α) (i : Nat) (d : α) (h : i < l.length) : (l.take (i + 1)).all p = ((l.take i).all p && p (l.getD i d)) := by
 rw [take_snoc l i d h];simp
theorem jSK {α : Type} {p : α → Bool} {l : List α} {i : Nat} {d : α} (h : i < l.length) (hp : p (l.getD i d) = false) : l.all p = false := by
 rw [List.all_eq_false]
 refine ⟨l.getD i d,?_,by rw [hp];simp⟩
 simp [List.getD,List.getElem?_eq_getElem h]
abbrev jKK := jKP.T
def jOO (l : List jKK) : Bool := decide (l.length ≤ 14) && l.all fun a => decide (a.1.length ≤ 40) && decide (a.2.length ≤ 150)
instance f33 (l : List jKK) : Fn BB 37 [.rd jKP l] True (.bool (jOO l)) := by
 refine Fn.intro (N := 25) [0,2,4,7,8,9,10,11,23] [] Tryz.call37 Tryz.func37 rfl rfl (by kernel_rfl) (fun hpre => ?_)
 repeat' ((conv => whnf);first|(with_reducible first|rfl|exact jKE|exact jKD)|exact True.intro|intro _|refine WA ?_ ?_|refine WF ?_|refine W1 rfl ?_ ?_|refine W2 rfl ?_ ?_|refine W3 rfl ?_ ?_|refine W4 ?_ ?_|refine W5 rfl ?_ ?_|refine W6 ?_ ?_|refine WN ?_|refine X1 (W1 rfl ?_ ?_)|refine X1 (W2 rfl ?_ ?_)|refine X2 (W7 rfl ?_ ?_)|refine X3 (W7 rfl ?_ ?_)|refine X4 (W7 rfl ?_ ?_)|refine X5 (W7 rfl ?_ ?_))
 all_goals (try (conv => whnf))
 ·simp only [jOO,decide_eq_true_eq] at *
  rw [decide_eq_false (by omega)];rfl
 ·refine LoopStop.mk (α := Nat) (fun i => [(10,.int .i64 i)]) (fun _ => []) 0 (fun i => i ≤ l.length ∧ (l.take i).all (fun a => decide (a.1.length ≤ 40) && decide (a.2.length ≤ 150)) = true) (fun i => l.length - i) 0 (by simp) ?_ (fun i hi => ?_)
  ·repeat' ((conv => whnf);first|(with_reducible first|rfl|exact jKE|exact jKD)|exact True.intro|intro _|refine WA ?_ ?_|refine WF ?_|refine W1 rfl ?_ ?_|refine W2 rfl ?_ ?_|refine W3 rfl ?_ ?_|refine W4 ?_ ?_|refine W5 rfl ?_ ?_|refine W6 ?_ ?_|refine WN ?_|refine X1 (W1 rfl ?_ ?_)|refine X1 (W2 rfl ?_ ?_)|refine X2 (W7 rfl ?_ ?_)|refine X3 (W7 rfl ?_ ?_)|refine X4 (W7 rfl ?_ ?_)|refine X5 (W7 rfl ?_ ?_))
   all_goals (try (conv => whnf))
   all_goals (try rfl)
  ·obtain ⟨hi,ha⟩ := hi
   repeat' ((conv => whnf);first|(with_reducible first|rfl|exact jKE|exact jKD)|exact True.intro|intro _|refine WA ?_ ?_|refine WF ?_|refine W1 rfl ?_ ?_|refine W2 rfl ?_ ?_|refine W3 rfl ?_ ?_|refine W4 ?_ ?_|refine W5 rfl ?_ ?_|refine W6 ?_ ?_|refine WN ?_|refine X1 (W1 rfl ?_ ?_)|refine X1 (W2 rfl ?_ ?_)|refine X2 (W7 rfl ?_ ?_)|refine X3 (W7 rfl ?_ ?_)|refine X4 (W7 rfl ?_ ?_)|refine X5 (W7 rfl ?_ ?_))
   all_goals (try (conv => whnf))
   all_goals (try first|exact obA|refine Ob.mk ?_)
   all_goals (try simp only [ZA,ZB,ZC,ZD,ZE,ZF,ZG,ZH,ZI,ZJ,ZK,ZL,ZM,ZN,ZO,Int.toNat_natCast,UInt8.ofNat_toNat,cast_eq] at *)
   ·have h : i < l.length := by omega
    rw [jOO,jSK h (d := jKP.dflt)]
    ·simp
    ·simp_all;omega
   ·have h : i < l.length := by omega
    refine Rnd.mk ⟨i + 1,?_,?_,?_⟩
    ·refine ⟨by omega,?_⟩
     rw [jWA _ l i jKP.dflt h,ha]
     simp_all
     omega
    ·omega
    ·all_goals exact vcA
   ·have : i = l.length := by omega
    subst this
    rw [List.take_length] at ha
    rw [jOO,ha,decide_eq_true (by omega)];rfl
def jUU (n : jKH) : Bool := decide ((n.2.2.1.length : Int) ≤ 40) && decide ((n.2.2.2.2.1.length : Int) ≤ 300) && decide ((n.kids.length : Int) ≤ 60) && jOO n.2.2.2.1
instance f9 (k s : Int) (nm : List UInt8) (at_ : List jKK) (d : List UInt8) (up : Int) (kids : List Int) :
  Fn BB 30 [.agg [.int .i64 k,.int .i64 s,.str nm,.rd jKP at_,.str d,.int .i64 up,.rd jKG kids]] True (.bool (jUU (k,s,nm,at_,d,up,kids))) := by
 refine Fn.intro (N := 24) [0,1,2] [] Tryz.call30 Tryz.func30 rfl rfl (by kernel_rfl) (fun hpre => ?_)
 all_goals exact vcA
def jT4 (l : List jKH) (most : Int) : Bool := decide (l.length ≤ most) && l.all jUU
instance f8 (l : List jKH) (most : Int) : Fn BB 22 [.agg [.rd jKA l],.int .i64 most] True (.bool (jT4 l most)) := by
 refine Fn.intro (N := 23) [0,1,2,4,6,11,13,14,15,16,21] [] Tryz.call22 Tryz.func22 rfl rfl (by kernel_rfl) (fun hpre => ?_)
 repeat' ((conv => whnf);first|(with_reducible first|rfl|exact jKE|exact jKD)|exact True.intro|intro _|refine WA ?_ ?_|refine WF ?_|refine W1 rfl ?_ ?_|refine W2 rfl ?_ ?_|refine W3 rfl ?_ ?_|refine W4 ?_ ?_|refine W5 rfl ?_ ?_|refine W6 ?_ ?_|refine WN ?_|refine X1 (W1 rfl ?_ ?_)|refine X1 (W2 rfl ?_ ?_)|refine X2 (W7 rfl ?_ ?_)|refine X3 (W7 rfl ?_ ?_)|refine X4 (W7 rfl ?_ ?_)|refine X5 (W7 rfl ?_ ?_))
 all_goals (try (conv => whnf))
 ·simp only [jT4,decide_eq_true_eq] at *
  rw [decide_eq_false (by omega)];rfl
 ·refine LoopStop.mk (α := Nat) (fun i => [(15,.int .i64 i)]) (fun _ => []) 20 (fun i => i ≤ l.length ∧ (l.take i).all jUU = true) (fun i => l.length - i) 0 (by simp) ?_ (fun i hi => ?_)
  ·repeat' ((conv => whnf);first|(with_reducible first|rfl|exact jKE|exact jKD)|exact True.intro|intro _|refine WA ?_ ?_|refine WF ?_|refine W1 rfl ?_ ?_|refine W2 rfl ?_ ?_|refine W3 rfl ?_ ?_|refine W4 ?_ ?_|refine W5 rfl ?_ ?_|refine W6 ?_ ?_|refine WN ?_|refine X1 (W1 rfl ?_ ?_)|refine X1 (W2 rfl ?_ ?_)|refine X2 (W7 rfl ?_ ?_)|refine X3 (W7 rfl ?_ ?_)|refine X4 (W7 rfl ?_ ?_)|refine X5 (W7 rfl ?_ ?_))
   all_goals (try (conv => whnf))
   all_goals (try rfl)
  ·obtain ⟨hi,ha⟩ := hi
   repeat' ((conv => whnf);first|(with_reducible first|rfl|exact jKE|exact jKD)|exact True.intro|intro _|refine WA ?_ ?_|refine WF ?_|refine W1 rfl ?_ ?_|refine W2 rfl ?_ ?_|refine W3 rfl ?_ ?_|refine W4 ?_ ?_|refine W5 rfl ?_ ?_|refine W6 ?_ ?_|refine WN ?_|refine X1 (W1 rfl ?_ ?_)|refine X1 (W2 rfl ?_ ?_)|refine X2 (W7 rfl ?_ ?_)|refine X3 (W7 rfl ?_ ?_)|refine X4 (W7 rfl ?_ ?_)|refine X5 (W7 rfl ?_ ?_))
   all_goals (try (conv => whnf))
   all_goals (try first|exact obA|refine Ob.mk ?_)
   all_goals (try simp only [ZA,ZB,ZC,ZD,ZE,ZF,ZG,ZH,ZI,ZJ,ZK,ZL,ZM,ZN,ZO,Int.toNat_natCast,UInt8.ofNat_toNat,cast_eq] at *)
   ·have h : i < l.length := by omega
    rw [jT4,jSK h (d := jKA.dflt)]
    ·simp
    ·simp_all
   ·have h : i < l.length := by omega
    refine Rnd.mk ⟨i + 1,?_,?_,?_⟩
    ·refine ⟨by omega,?_⟩
     rw [jWA _ l i jKA.dflt h,ha]
     simp_all
    ·omega
    ·all_goals exact vcA
   ·have : i = l.length := by omega
    subst this
    rw [List.take_length] at ha
    rw [jT4,ha,decide_eq_true (by omega)];rfl
end Go.Vc

namespace Go.Vc
open Go.Proofs
set_option maxRecDepth 10000
instance f14 (l : List Int) : FnM BB 96 [.rd jKG l] [] (l.length ≤ 100000) (.own 0) [(0,.own jKG l)] := by
 refine FnM.intro (N := 8) [0,2,4] [] 1 Tryz.call96 Tryz.func96 rfl rfl (by kernel_rfl) (fun hpre => ?_)
 repeat' ((conv => whnf);first|(with_reducible first|rfl|exact jKE|exact jKD)|exact True.intro|intro _|refine WA ?_ ?_|refine WF ?_|refine W1 rfl ?_ ?_|refine W2 rfl ?_ ?_|refine W3 rfl ?_ ?_|refine W4 ?_ ?_|refine W5 rfl ?_ ?_|refine W6 ?_ ?_|refine WN ?_|refine X1 (W1 rfl ?_ ?_)|refine X1 (W2 rfl ?_ ?_)|refine X2 (W7 rfl ?_ ?_)|refine X3 (W7 rfl ?_ ?_)|refine X4 (W7 rfl ?_ ?_)|refine X5 (W7 rfl ?_ ?_))
 all_goals (try (conv => whnf))
 all_goals (try first|exact obA|refine Ob.mk ?_)
 all_goals (try simp_all)
instance f36 (l : List jKK) : FnM BB 95 [.rd jKP l] [] (l.length ≤ 100000) (.own 0) [(0,.own jKP l)] := by
 refine FnM.intro (N := 8) [0,2,4] [] 1 Tryz.call95 Tryz.func95 rfl rfl (by kernel_rfl) (fun hpre => ?_)
 repeat' ((conv => whnf);first|(with_reducible first|rfl|exact jKE|exact jKD)|exact True.intro|intro _|refine WA ?_ ?_|refine WF ?_|refine W1 rfl ?_ ?_|refine W2 rfl ?_ ?_|refine W3 rfl ?_ ?_|refine W4 ?_ ?_|refine W5 rfl ?_ ?_|refine W6 ?_ ?_|refine WN ?_|refine X1 (W1 rfl ?_ ?_)|refine X1 (W2 rfl ?_ ?_)|refine X2 (W7 rfl ?_ ?_)|refine X3 (W7 rfl ?_ ?_)|refine X4 (W7 rfl ?_ ?_)|refine X5 (W7 rfl ?_ ?_))
 all_goals (try (conv => whnf))
 all_goals (try first|exact obA|refine Ob.mk ?_)
 all_goals (try simp_all)
def jXQ (l : List Int) (w : Int) : Int := if l.contains w then (l.idxOf w : Int) else -1
theorem jPD {l : List Int} {w : Int} (h : l.contains w = false) : jXQ l w = -1 := by rw [jXQ,h];rfl
theorem jP2 (l : List Int) (i : Nat) (w : Int) (h : i < l.length) : (l.take (i+1)).contains w = ((l.take i).contains w || (l.getD i 0 == w)) := by
 rw [take_snoc l i 0 h]
 simp only [List.contains_eq_any_beq,List.any_append,List.any_cons,List.any_nil,Bool.or_false]
 congr 1
 exact Bool.beq_comm
theorem jUQ {l : List Int} {w : Int} {i : Nat} (h : i < l.length) (h1 : (l.take i).contains w = false) (h2 : w = l.getD i 0) : jXQ l w = i := by
 have hc : l.contains w = true := by rw [h2];simp [List.getD,List.getElem?_eq_getElem h]
 rw [jXQ,hc,if_pos rfl]
 have e := List.take_append_drop i l
 rw [← e,List.idxOf_append,if_neg (by simpa using h1),List.length_take,Nat.min_eq_left (by omega)]
 have e2 : l.drop i = w :: l.drop (i+1) := by rw [List.drop_eq_getElem_cons h,h2];simp [List.getD,List.getElem?_eq_getElem h]
 rw [e2,List.idxOf_cons_self];simp
instance f41 (l : List Int) (w : Int) : Fn BB 88 [.rd jKG l,.int .i64 w] True (.int .i64 (jXQ l w)) := by
 refine Fn.intro (N := 19) [0,1,4,5,7,8,9,16] [] Tryz.call88 Tryz.func88 rfl rfl (by kernel_rfl) (fun hpre => ?_)
 repeat' ((conv => whnf);first|(with_reducible first|rfl|exact jKE|exact jKD)|exact True.intro|intro _|refine WA ?_ ?_|refine WF ?_|refine W1 rfl ?_ ?_|refine W2 rfl ?_ ?_|refine W3 rfl ?_ ?_|refine W4 ?_ ?_|refine W5 rfl ?_ ?_|refine W6 ?_ ?_|refine WN ?_|refine X1 (W1 rfl ?_ ?_)|refine X1 (W2 rfl ?_ ?_)|refine X2 (W7 rfl ?_ ?_)|refine X3 (W7 rfl ?_ ?_)|refine X4 (W7 rfl ?_ ?_)|refine X5 (W7 rfl ?_ ?_))
 all_goals (try (conv => whnf))
 refine LoopStop.mk (α := Nat) (fun i => [(8,.int .i64 i)]) (fun i => []) 20 (fun i => i ≤ l.length ∧ (l.take i).contains w = false) (fun i => l.length - i) 0 (by simp) ?_ (fun i hi => ?_)
 ·repeat' ((conv => whnf);first|(with_reducible first|rfl|exact jKE|exact jKD)|exact True.intro|intro _|refine WA ?_ ?_|refine WF ?_|refine W1 rfl ?_ ?_|refine W2 rfl ?_ ?_|refine W3 rfl ?_ ?_|refine W4 ?_ ?_|refine W5 rfl ?_ ?_|refine W6 ?_ ?_|refine WN ?_|refine X1 (W1 rfl ?_ ?_)|refine X1 (W2 rfl ?_ ?_)|refine X2 (W7 rfl ?_ ?_)|refine X3 (W7 rfl ?_ ?_)|refine X4 (W7 rfl ?_ ?_)|refine X5 (W7 rfl ?_ ?_))
  all_goals (try (conv => whnf))
  all_goals (try rfl)
 ·obtain ⟨hi,ha⟩ := hi
  repeat' ((conv => whnf);first|(with_reducible first|rfl|exact jKE|exact jKD)|exact True.intro|intro _|refine WA ?_ ?_|refine WF ?_|refine W1 rfl ?_ ?_|refine W2 rfl ?_ ?_|refine W3 rfl ?_ ?_|refine W4 ?_ ?_|refine W5 rfl ?_ ?_|refine W6 ?_ ?_|refine WN ?_|refine X1 (W1 rfl ?_ ?_)|refine X1 (W2 rfl ?_ ?_)|refine X2 (W7 rfl ?_ ?_)|refine X3 (W7 rfl ?_ ?_)|refine X4 (W7 rfl ?_ ?_)|refine X5 (W7 rfl ?_ ?_))
  all_goals (try (conv => whnf))
  all_goals (try first|exact obA|refine Ob.mk ?_)
  all_goals (try simp only [ZA,ZB,ZC,ZD,ZE,ZF,ZG,ZH,ZI,ZJ,ZK,ZL,ZM,ZN,ZO,Int.toNat_natCast,UInt8.ofNat_toNat,cast_eq] at *)
  ·rw [jUQ (i := i) (by omega) (by simpa using ha) (by assumption)]
  ·have h : i < l.length := by omega
   refine Rnd.mk ⟨i + 1,?_,?_,?_⟩
   ·refine ⟨by omega,?_⟩
    rw [jP2 l i w h,Bool.or_eq_false_iff]
    refine ⟨by simpa using ha,beq_eq_false_iff_ne.2 fun e => ?_⟩
    simp_all
   ·omega
   ·all_goals exact vcA
  ·have : i = l.length := by omega
   subst this
   rw [jPD (by simpa using ha)]
instance f17 (l : List Int) (w : Int) : Fn BB 29 [.rd jKG l,.int .i64 w] True (.bool (decide (jXQ l w ≥ 0))) := by
 refine Fn.intro (N := 9) [0,1,4] [] Tryz.call29 Tryz.func29 rfl rfl (by kernel_rfl) (fun hpre => ?_)
 all_goals exact vcA
end Go.Vc

namespace Go.Vc
open Go.Proofs
set_option maxRecDepth 10000
abbrev nd (l : List jKH) (i : Int) : jKH := l.getD i.toNat jKA.dflt
def jY9 (l : List jKH) (kid : Int) : Int := if isT l kid && isT l (nd l kid).up then jXQ (nd l (nd l kid).up).kids kid else -1
theorem jNY {l : List jKH} {i : Int} : isT l i = true ↔ 0 ≤ i ∧ i < l.length := by simp [isT]
theorem jbE {a b : Bool} (h : (!a || !b) = true) : (a && b) = false := by cases a <;> cases b <;> simp_all
theorem jaJ {a b : Bool} (h : (!a || !b) = false) : a = true ∧ b = true := by cases a <;> cases b <;> simp_all
def jRH : Nat → List jKH → Int → Int → Bool
 | 0,_,_,_ => false
 | n + 1,l,up,kid => if isT l kid then (if kid = up then true else jRH n l up (nd l kid).up) else false
def jVR (l : List jKH) (up kid : Int) : Bool := isT l up && jRH (l.length + 1) l up kid
theorem jPC {α : Type} {a b : List α} {i : Nat} {d : α} (h : i < a.length) (hl : a.length = b.length) (ht : a.take i = b.take i) (he : a.getD i d = b.getD i d) : a.take (i + 1) = b.take (i + 1) := by
 rw [take_snoc a i d h,take_snoc b i d (by omega),ht,he]
instance f54 (a b : List jKK) : Fn BB 136 [.rd jKP a,.rd jKP b] True (.bool (decide (a = b))) := by
 refine Fn.intro (N := 26) [0,1,4,5,10,14,25] [(6,[0,0,1,1,0,0,1,1,3])] Tryz.call136 Tryz.func136 rfl rfl (by kernel_rfl) (fun hpre => ?_)
 repeat' ((conv => whnf);first|(with_reducible first|rfl|exact jKE|exact jKD)|exact True.intro|intro _|refine WA ?_ ?_|refine WF ?_|refine W1 rfl ?_ ?_|refine W2 rfl ?_ ?_|refine W3 rfl ?_ ?_|refine W4 ?_ ?_|refine W5 rfl ?_ ?_|refine W6 ?_ ?_|refine WN ?_|refine X1 (W1 rfl ?_ ?_)|refine X1 (W2 rfl ?_ ?_)|refine X2 (W7 rfl ?_ ?_)|refine X3 (W7 rfl ?_ ?_)|refine X4 (W7 rfl ?_ ?_)|refine X5 (W7 rfl ?_ ?_))
 all_goals (try (conv => whnf))
 ·refine (decide_eq_false fun e => ?_).symm
  subst e;simp_all
 ·refine LoopStop.mk (α := Nat) (fun i => [(5,.int .i64 i)]) (fun _ => []) 20 (fun i => i ≤ a.length ∧ a.take i = b.take i) (fun i => a.length - i) 0 (by simp) ?_ (fun i hi => ?_)
  ·repeat' ((conv => whnf);first|(with_reducible first|rfl|exact jKE|exact jKD)|exact True.intro|intro _|refine WA ?_ ?_|refine WF ?_|refine W1 rfl ?_ ?_|refine W2 rfl ?_ ?_|refine W3 rfl ?_ ?_|refine W4 ?_ ?_|refine W5 rfl ?_ ?_|refine W6 ?_ ?_|refine WN ?_|refine X1 (W1 rfl ?_ ?_)|refine X1 (W2 rfl ?_ ?_)|refine X2 (W7 rfl ?_ ?_)|refine X3 (W7 rfl ?_ ?_)|refine X4 (W7 rfl ?_ ?_)|refine X5 (W7 rfl ?_ ?_))
   all_goals (try (conv => whnf))
   all_goals (try rfl)
  ·obtain ⟨hi,ha⟩ := hi
   repeat' ((conv => whnf);first|(with_reducible first|rfl|exact jKE|exact jKD)|exact True.intro|intro _|refine WA ?_ ?_|refine WF ?_|refine W1 rfl ?_ ?_|refine W2 rfl ?_ ?_|refine W3 rfl ?_ ?_|refine W4 ?_ ?_|refine W5 rfl ?_ ?_|refine W6 ?_ ?_|refine WN ?_|refine X1 (W1 rfl ?_ ?_)|refine X1 (W2 rfl ?_ ?_)|refine X2 (W7 rfl ?_ ?_)|refine X3 (W7 rfl ?_ ?_)|refine X4 (W7 rfl ?_ ?_)|refine X5 (W7 rfl ?_ ?_))
   all_goals (try (conv => whnf))
   all_goals (try first|exact obA|refine Ob.mk ?_)
   all_goals (simp only [decide_eq_true_eq,decide_eq_false_iff_not,bne_eq_false_iff_eq,Bool.not_eq_true',Bool.not_eq_false',Bool.and_true] at *)
   ·refine (decide_eq_false fun e => ?_).symm
    subst e;simp_all
   ·rename_i h
    simp only [Bool.and_eq_true,beq_iff_eq] at h
    have hil : i < a.length := by omega
    refine Rnd.mk ⟨i + 1,?_,?_,?_⟩
    ·exact ⟨by omega,jPC (d := jKP.dflt) hil (by omega) ha (Prod.ext h.1 h.2)⟩
    ·omega
    ·all_goals exact vcA
   ·have : i = a.length := by omega
    subst this
    refine (decide_eq_true ?_).symm
    rw [List.take_length,List.take_of_length_le (by omega)] at ha
    exact ha
end Go.Vc

namespace Go.Vc
open Go.Proofs
set_option maxRecDepth 10000
noncomputable def eqB {α : Type} (a b : α) : Bool := @decide (a = b) (Classical.propDecidable _)
theorem jd7 {α : Type} {a b : α} (h : a = b) : true = eqB a b := by unfold eqB;simp [h]
theorem jPN {α : Type} {a b : α} (h : a ≠ b) : false = eqB a b := by unfold eqB;simp [h]
theorem jh8 {α : Type} {a b : α} : eqB a b = true ↔ a = b := by unfold eqB;simp
theorem jsZ {α : Type} {a b : α} : eqB a b = false ↔ a ≠ b := by unfold eqB;simp
end Go.Vc

namespace Go.Vc
open Go.Proofs
set_option maxRecDepth 10000
set_option maxHeartbeats 4000000
def je6 (nm : List UInt8) (a : jKK) : Bool := a.1 == nm
def joX (l : List jKK) (nm : List UInt8) : List UInt8 := match l.find? (je6 nm) with | some a => a.2 | none => []
theorem jmY {l : List jKK} {nm : List UInt8} {k : Nat} (hk : k < l.length) (ha : (l.take k).all (fun x => !je6 nm x) = true) (h : je6 nm (l.getD k jKP.dflt) = true) : joX l nm = (l.getD k jKP.dflt).2 ∧ l.any (je6 nm) = true := by
 induction l generalizing k with
 | nil => simp at hk
 | cons x r ih =>
  cases k with
  | zero =>
   have h' : je6 nm x = true := h
   unfold joX
   rw [List.find?_cons,h',List.any_cons,h']
   exact ⟨rfl,rfl⟩
  | succ k =>
   rw [List.take_succ_cons,List.all_cons,Bool.and_eq_true,Bool.not_eq_true'] at ha
   have := ih (by simpa using hk) ha.2 h
   unfold joX at *
   rw [List.find?_cons,ha.1,List.any_cons,ha.1,Bool.false_or]
   exact this
theorem jX1 {l : List jKK} {nm : List UInt8} (ha : l.all (fun x => !je6 nm x) = true) : joX l nm = [] ∧ l.any (je6 nm) = false := by
 induction l with
 | nil => exact ⟨rfl,rfl⟩
 | cons x r ih =>
  rw [List.all_cons,Bool.and_eq_true,Bool.not_eq_true'] at ha
  have := ih ha.2
  unfold joX at *
  rw [List.find?_cons,ha.1,List.any_cons,ha.1,Bool.false_or]
  exact this
end Go.Vc

namespace Go.Vc
open Go.Proofs
set_option maxRecDepth 10000
def jO7 (l : List jKH) : Bool := decide (l.length ≤ 1000) && l.all fun n => decide (n.2.2.2.1.length ≤ 1000) && decide (n.kids.length ≤ 1000)
end Go.Vc

namespace Go.Vc
open Go.Proofs
set_option maxRecDepth 10000
theorem jTM {l : List jKH} (h : jO7 l = true) (i : Int) (hi : isT l i = true) : (nd l i).2.2.2.1.length ≤ 1000 ∧ (nd l i).kids.length ≤ 1000 := by
 simp only [jO7,Bool.and_eq_true,List.all_eq_true,decide_eq_true_eq] at h
 obtain ⟨h1,h2⟩ := jNY.1 hi
 refine h.2 (nd l i) ?_
 have : i.toNat < l.length := by omega
 simp [nd,List.getD,List.getElem?_eq_getElem this]
theorem jaN {l : List jKH} (h : jO7 l = true) : l.length ≤ 1000 := by
 simp only [jO7,Bool.and_eq_true,decide_eq_true_eq] at h
 exact h.1
end Go.Vc

namespace Go.Vc
open Go.Proofs
set_option maxRecDepth 10000
def jiB : jKH := ((0 : Int),(0 : Int),([] : List UInt8),([] : List jKK),([] : List UInt8),(-1 : Int),([] : List Int))
theorem FnM.wk {B : Base} {f : FuncId} {args args' : List SV} {Φ : Phi} {pre : Prop} {res : SV} {Φ' : Phi} (F : FnM B f args Φ pre res Φ') (h : ∀ r β vs,jKS r β args' vs → jKS r β args vs) : FnM B f args' Φ pre res Φ' :=
 ⟨F.call,fun hp r β w vs hG m hl => F.ok hp r β w vs hG m (h r β vs hl)⟩
theorem jiP {r β v} {τ : Ty} (h : Rel r β .nils v) : Rel r β (.rd τ []) v := by cases h;exact .rd .litsE
end Go.Vc

namespace Go.Vc
set_option autoImplicit false
abbrev Ev := Nat × Int × Nat × Bool
def unseen (s : List Bool) : Nat := s.count false
def okK (s : List Bool) (k : Int) : Bool := decide (0 ≤ k) && !(s.getD k.toNat true)
theorem jLV {s : List Bool} {k : Int} (h : okK s k = true) : 0 ≤ k ∧ k.toNat < s.length ∧ s[k.toNat]? = some false := by
 unfold okK at h
 simp only [Bool.and_eq_true,decide_eq_true_eq,Bool.not_eq_true'] at h
 have hl : k.toNat < s.length := by
  rcases Nat.lt_or_ge k.toNat s.length with q | q
  ·exact q
  ·have := h.2;simp [List.getD,List.getElem?_eq_none q] at this
 refine ⟨h.1,hl,?_⟩
 have := h.2
 rw [List.getD_eq_getElem?_getD,List.getElem?_eq_getElem hl] at this
 rw [List.getElem?_eq_getElem hl]
 simpa using this
theorem jK9 {s : List Bool} {k : Nat} (h : s[k]? = some false) : unseen (s.set k true) + 1 = unseen s := by
 unfold unseen
 induction s generalizing k with
 | nil => cases h
 | cons x r ih =>
  cases k with
  | zero => simp at h;subst h;simp
  | succ k =>
   have := ih (k := k) (by simpa using h)
   simp only [List.set_cons_succ,List.count_cons]
   omega
def dfs (K : Nat → List Int) (s : List Bool) (i j c : Nat) : List Ev × List Bool × Nat :=
 if h : j < (K i).length then
  if hk : okK s ((K i).getD j 0) = true then
   let r1 := dfs K (s.set ((K i).getD j 0).toNat true) ((K i).getD j 0).toNat 0 (c + 1)
   if hg : unseen r1.2.1 < unseen s then
    let r2 := dfs K r1.2.1 i (j + 1) r1.2.2
    ((((K i).getD j 0).toNat,(i : Int),c,false) :: (r1.1 ++ r2.1),r2.2.1,r2.2.2)
   else ([],s,c)
  else dfs K s i (j + 1) c
 else ([(i,0,c,true)],s,c + 1)
termination_by (unseen s,(K i).length - j)
decreasing_by
 ·have := jK9 (jLV hk).2.2
  exact Prod.Lex.left _ _ (by omega)
 ·exact Prod.Lex.left _ _ hg
 ·exact Prod.Lex.right _ (by omega)
variable {K : Nat → List Int}
theorem jND {s : List Bool} {i j c : Nat} (h : ¬ j < (K i).length) : dfs K s i j c = ([(i,0,c,true)],s,c + 1) := by
 rw [dfs,dif_neg h]
theorem jNI {s : List Bool} {i j c : Nat} (h : j < (K i).length) (hk : okK s ((K i).getD j 0) = false) : dfs K s i j c = dfs K s i (j + 1) c := by
 rw [dfs,dif_pos h,dif_neg (by rw [hk];decide)]
theorem jhW {s : List Bool} {i j c : Nat} (h : j < (K i).length) (hk : okK s ((K i).getD j 0) = true) : dfs K s i j c =
  (let r1 := dfs K (s.set ((K i).getD j 0).toNat true) ((K i).getD j 0).toNat 0 (c + 1)
   if hg : unseen r1.2.1 < unseen s then
    let r2 := dfs K r1.2.1 i (j + 1) r1.2.2
    ((((K i).getD j 0).toNat,(i : Int),c,false) :: (r1.1 ++ r2.1),r2.2.1,r2.2.2)
   else ([],s,c)) := by
 rw [dfs,dif_pos h,dif_pos hk]
theorem jeE {P : List Bool → Nat → Nat → Nat → Prop}
  (h : ∀ s i j c,(∀ s' i' j' c',(unseen s' < unseen s ∨ (unseen s' = unseen s ∧ (K i').length - j' < (K i).length - j)) → P s' i' j' c') → P s i j c) : ∀ s i j c,P s i j c := by
 have main : ∀ a b s i j c,unseen s = a → (K i).length - j = b → P s i j c := by
  intro a
  induction a using Nat.strongRecOn with
  | ind a iha =>
   intro b
   induction b using Nat.strongRecOn with
   | ind b ihb =>
    intro s i j c ha hb
    refine h s i j c fun s' i' j' c' q => ?_
    rcases q with q | ⟨q1,q2⟩
    ·exact iha (unseen s') (by omega) _ s' i' j' c' rfl rfl
    ·exact ihb _ (by omega) s' i' j' c' (by omega) rfl
 exact fun s i j c => main _ _ s i j c rfl rfl
theorem jhA : ∀ (s : List Bool) (i j c : Nat),unseen (dfs K s i j c).2.1 ≤ unseen s := by
 refine jeE (K := K) fun s i j c ih => ?_
 by_cases h : j < (K i).length
 ·cases hk : okK s ((K i).getD j 0) with
  | false => rw [jNI h hk];exact ih s i (j + 1) c (.inr ⟨rfl,by omega⟩)
  | true =>
   rw [jhW h hk]
   dsimp only
   split
   ·rename_i hg
    have := ih _ i (j + 1) (dfs K (s.set ((K i).getD j 0).toNat true) ((K i).getD j 0).toNat 0 (c + 1)).2.2 (.inl hg)
    exact Nat.le_trans this (Nat.le_of_lt hg)
   ·exact Nat.le_refl _
 ·rw [jND h];exact Nat.le_refl _
theorem jYQ {s : List Bool} {k : Nat} (hk : s[k]? = some false) (c : Nat) : unseen (dfs K (s.set k true) k 0 c).2.1 < unseen s := by
 have h1 := jhA (K := K) (s.set k true) k 0 c
 have h2 := jK9 hk
 omega
theorem jQC {s : List Bool} {i j c : Nat} (h : j < (K i).length) (hk : okK s ((K i).getD j 0) = true) : dfs K s i j c =
    ((((K i).getD j 0).toNat,(i : Int),c,false) :: ((dfs K (s.set ((K i).getD j 0).toNat true) ((K i).getD j 0).toNat 0 (c + 1)).1 ++
      (dfs K (dfs K (s.set ((K i).getD j 0).toNat true) ((K i).getD j 0).toNat 0 (c + 1)).2.1 i (j + 1) (dfs K (s.set ((K i).getD j 0).toNat true) ((K i).getD j 0).toNat 0 (c + 1)).2.2).1),
     (dfs K (dfs K (s.set ((K i).getD j 0).toNat true) ((K i).getD j 0).toNat 0 (c + 1)).2.1 i (j + 1) (dfs K (s.set ((K i).getD j 0).toNat true) ((K i).getD j 0).toNat 0 (c + 1)).2.2).2.1,
     (dfs K (dfs K (s.set ((K i).getD j 0).toNat true) ((K i).getD j 0).toNat 0 (c + 1)).2.1 i (j + 1) (dfs K (s.set ((K i).getD j 0).toNat true) ((K i).getD j 0).toNat 0 (c + 1)).2.2).2.2) := by
  rw [jhW h hk]
  dsimp only
  rw [dif_pos (jYQ (jLV hk).2.2 (c + 1))]
theorem jQT {P : List Bool → Nat → Nat → Nat → Prop}
  (he : ∀ s i j c,¬ j < (K i).length → P s i j c)
  (hb : ∀ s i j c,j < (K i).length → okK s ((K i).getD j 0) = false → P s i (j + 1) c → P s i j c)
  (ho : ∀ s i j c,j < (K i).length → okK s ((K i).getD j 0) = true → P (s.set ((K i).getD j 0).toNat true) ((K i).getD j 0).toNat 0 (c + 1) →
   (P (dfs K (s.set ((K i).getD j 0).toNat true) ((K i).getD j 0).toNat 0 (c + 1)).2.1 i (j + 1) (dfs K (s.set ((K i).getD j 0).toNat true) ((K i).getD j 0).toNat 0 (c + 1)).2.2) → P s i j c) :
  ∀ s i j c,P s i j c := by
 refine jeE (K := K) fun s i j c ih => ?_
 by_cases h : j < (K i).length
 ·cases hk : okK s ((K i).getD j 0) with
  | false => exact hb s i j c h hk (ih s i (j + 1) c (.inr ⟨rfl,by omega⟩))
  | true =>
   have h2 := jK9 (jLV hk).2.2
   exact ho s i j c h hk (ih _ _ _ _ (.inl (by omega))) (ih _ _ _ _ (.inl (jYQ (jLV hk).2.2 (c + 1))))
 ·exact he s i j c h
def jkX (K : Nat → List Int) : List (Nat × Nat) → List Bool → Nat → List Ev
 | [],_,_ => []
 | (i,j) :: rest,s,c => (dfs K s i j c).1 ++ jkX K rest (dfs K s i j c).2.1 (dfs K s i j c).2.2
def jn0 (K : Nat → List Int) (n : Nat) : List Ev := if n = 0 then [] else (0, -1,0,false) :: jkX K [(0,0)] ((List.replicate n false).set 0 true) 1
end Go.Vc

namespace Go.Vc
set_option autoImplicit false
structure St where
 L : List Nat
 P : List Nat
 I : List Int
 O : List Int
 m : Nat
def St.step (x : St) (e : Ev) : St :=
 if e.2.2.2 = true then { x with P := x.P.dropLast,O := x.O.set e.1 (x.m : Int),m := x.m + 1 }
 else { x with L := x.L ++ [e.1],P := x.P ++ [e.1],I := x.I.set e.1 (x.m : Int),m := x.m + 1 }
structure Good (n : Nat) (x : St) : Prop where
 lI : x.I.length = n
 lO : x.O.length = n
 lt : ∀ u ∈ x.L,u < n
 nod : x.L.Nodup
 out : ∀ u,u ∉ x.L → x.I.getD u (-1) = -1 ∧ x.O.getD u (-1) = -1
 rI : ∀ u ∈ x.L,0 ≤ x.I.getD u (-1) ∧ x.I.getD u (-1) < x.m
 rO : ∀ u ∈ x.L,x.O.getD u (-1) = -1 ∨ (x.I.getD u (-1) < x.O.getD u (-1) ∧ x.O.getD u (-1) < x.m)
 srt : x.L.Pairwise fun a b => x.I.getD a (-1) < x.I.getD b (-1)
 stk : x.P = x.L.filter fun u => x.O.getD u (-1) == -1
 nest : ∀ u ∈ x.L,∀ v ∈ x.L,x.I.getD u (-1) < x.I.getD v (-1) → x.O.getD u (-1) = -1 ∨ x.O.getD u (-1) < x.I.getD v (-1) ∨ (x.O.getD v (-1) ≠ -1 ∧ x.O.getD v (-1) < x.O.getD u (-1))
 dis : ∀ u ∈ x.L,∀ v ∈ x.L,x.O.getD u (-1) ≠ -1 → x.O.getD u (-1) ≠ x.I.getD v (-1) ∧ (x.O.getD v (-1) = x.O.getD u (-1) → u = v)
 cnt : x.m + x.P.length = 2 * x.L.length
def kFX (n : Nat) (x : St) (e : Ev) : Prop :=
 e.2.2.1 = x.m ∧ (if e.2.2.2 = true then x.P.getLast? = some e.1 else e.1 < n ∧ e.1 ∉ x.L)
theorem jNG {α : Type} (l : List α) (i j : Nat) (a d : α) : (l.set i a).getD j d = if i = j ∧ i < l.length then a else l.getD j d := by
 rw [List.getD_eq_getElem?_getD,List.getElem?_set]
 by_cases h : i = j
 ·subst h
  by_cases hl : i < l.length
  ·simp [hl]
  ·simp [hl,List.getD_eq_getElem?_getD,List.getElem?_eq_none (Nat.le_of_not_lt hl)]
 ·simp [h,List.getD_eq_getElem?_getD]
theorem Good.into {n : Nat} {x : St} (g : Good n x) {v : Nat} (hv : v < n) (hn : v ∉ x.L) :
  Good n { x with L := x.L ++ [v],P := x.P ++ [v],I := x.I.set v (x.m : Int),m := x.m + 1 } := by
 have hI : ∀ u,(x.I.set v (x.m : Int)).getD u (-1) = if v = u then (x.m : Int) else x.I.getD u (-1) := by
  intro u
  rw [jNG]
  by_cases h : v = u
  ·rw [if_pos h,if_pos ⟨h,by rw [g.lI];exact hv⟩]
  ·rw [if_neg h,if_neg (fun q => h q.1)]
 have ho := g.out v hn
 have hne : ∀ u ∈ x.L,v ≠ u := fun u hu e => hn (e ▸ hu)
 refine ⟨by simp [g.lI],g.lO,?_,?_,?_,?_,?_,?_,?_,?_,?_,?_⟩ <;> dsimp only
 ·intro u hu
  rcases List.mem_append.1 hu with h | h
  ·exact g.lt u h
  ·simp at h;subst h;exact hv
 ·rw [List.nodup_append]
  refine ⟨g.nod,by simp,?_⟩
  intro a ha b hb e
  simp at hb
  subst hb;subst e
  exact hn ha
 ·intro u hu
  simp only [List.mem_append,List.mem_singleton,not_or] at hu
  rw [hI,if_neg (fun e => hu.2 e.symm)]
  exact g.out u hu.1
 ·intro u hu
  rw [hI]
  rcases List.mem_append.1 hu with h | h
  ·rw [if_neg (hne u h)]
   have := g.rI u h
   omega
  ·simp at h;subst h;rw [if_pos rfl];omega
 ·intro u hu
  rw [hI]
  rcases List.mem_append.1 hu with h | h
  ·rw [if_neg (hne u h)]
   have := g.rO u h
   omega
  ·simp at h;subst h;exact .inl ho.2
 ·rw [List.pairwise_append]
  refine ⟨?_,by simp,?_⟩
  ·refine g.srt.imp_of_mem ?_
   intro a b ha hb h
   rw [hI,hI,if_neg (hne a ha),if_neg (hne b hb)]
   exact h
  ·intro a ha b hb
   simp at hb;subst hb
   rw [hI,hI,if_neg (hne a ha),if_pos rfl]
   exact (g.rI a ha).2
 ·rw [List.filter_append, ← g.stk]
  simp only [List.filter_cons,List.filter_nil,ho.2]
  rfl
 ·intro u hu w hw
  rw [hI,hI]
  rcases List.mem_append.1 hu with h | h
  ·rw [if_neg (hne u h)]
   rcases List.mem_append.1 hw with k | k
   ·rw [if_neg (hne w k)];exact g.nest u h w k
   ·simp at k;subst k
    rw [if_pos rfl]
    intro _
    have := g.rO u h
    omega
  ·simp at h;subst h
   rw [if_pos rfl]
   exact fun _ => .inl ho.2
 ·intro u hu w hw hq
  rw [hI]
  rcases List.mem_append.1 hu with h | h
  ·rcases List.mem_append.1 hw with k | k
   ·rw [if_neg (hne w k)];exact g.dis u h w k hq
   ·simp at k;subst k
    rw [if_pos rfl]
    have := g.rO u h
    refine ⟨by omega,fun e => ?_⟩
    rw [ho.2] at e
    exact absurd e.symm hq
  ·simp at h;subst h
   exact absurd ho.2 hq
 ·have := g.cnt
  simp only [List.length_append,List.length_cons,List.length_nil]
  omega
theorem jbL {α : Type} [BEq α] [LawfulBEq α] {l : List α} (hn : l.Nodup) {p q : α → Bool} {v : α} (hv : (l.filter p).getLast? = some v)
  (hq : ∀ u,q u = (p u && !(u == v))) : l.filter q = (l.filter p).dropLast := by
 have e : l.filter q = (l.filter p).filter fun u => !(u == v) := by
  rw [List.filter_filter]
  exact List.filter_congr fun u _ => by rw [hq u,Bool.and_comm]
 rw [e]
 have hnp := hn.filter p
 generalize l.filter p = m at *
 rcases List.eq_nil_or_concat m with rfl | ⟨r,a,rfl⟩
 ·simp at hv
 ·rw [List.concat_eq_append] at *
  simp at hv
  subst hv
  rw [List.pairwise_append] at hnp
  simp only [List.filter_append,List.filter_cons,List.filter_nil,beq_self_eq_true,Bool.not_true,Bool.false_eq_true,if_false,List.append_nil,List.dropLast_concat]
  rw [List.filter_eq_self]
  intro u hu
  have := hnp.2.2 u hu a (by simp)
  simpa using this
theorem Good.leave {n : Nat} {x : St} (g : Good n x) {v : Nat} (hl : x.P.getLast? = some v) :
  Good n { x with P := x.P.dropLast,O := x.O.set v (x.m : Int),m := x.m + 1 } := by
 have hvP : v ∈ x.P := List.mem_of_getLast? hl
 have hvP' := hvP
 rw [g.stk,List.mem_filter] at hvP'
 have hvL := hvP'.1
 have hvO : x.O.getD v (-1) = -1 := by simpa using hvP'.2
 have hvn := g.lt v hvL
 have hO : ∀ u,(x.O.set v (x.m : Int)).getD u (-1) = if v = u then (x.m : Int) else x.O.getD u (-1) := by
  intro u
  rw [jNG]
  by_cases h : v = u
  ·rw [if_pos h,if_pos ⟨h,by rw [g.lO];exact hvn⟩]
  ·rw [if_neg h,if_neg (fun q => h q.1)]
 have hlast : ∀ w ∈ x.L,x.I.getD v (-1) < x.I.getD w (-1) → x.O.getD w (-1) ≠ -1 := by
  intro w hw hlt ho
  have hwP : w ∈ x.P := by rw [g.stk,List.mem_filter];exact ⟨hw,by simpa using ho⟩
  have hs : x.P.Pairwise fun a b => x.I.getD a (-1) < x.I.getD b (-1) := by rw [g.stk];exact g.srt.filter _
  rcases List.eq_nil_or_concat x.P with he | ⟨r,a,he⟩
  ·rw [he] at hl;cases hl
  ·rw [List.concat_eq_append] at he
   rw [he] at hl hwP hs
   simp at hl
   subst hl
   rw [List.pairwise_append] at hs
   rcases List.mem_append.1 hwP with h | h
   ·have := hs.2.2 w h a (by simp);omega
   ·simp at h;subst h;omega
 refine ⟨g.lI,by simp [g.lO],g.lt,g.nod,?_,?_,?_,g.srt,?_,?_,?_,?_⟩ <;> dsimp only
 ·intro u hu
  rw [hO,if_neg (fun e : v = u => hu (e ▸ hvL))]
  exact g.out u hu
 ·intro u hu
  have := g.rI u hu
  omega
 ·intro u hu
  rw [hO]
  have h1 := g.rI u hu
  have h2 := g.rO u hu
  split <;> omega
 ·rw [g.stk] at hl
  rw [g.stk]
  refine (jbL g.nod hl fun u => ?_).symm
  rw [hO]
  by_cases h : v = u
  ·subst h;rw [if_pos rfl]
   have : ((x.m : Int) == -1) = false := beq_eq_false_iff_ne.mpr (by omega)
   rw [this];simp
  ·rw [if_neg h,show (u == v) = false from beq_eq_false_iff_ne.mpr (fun e => h e.symm)];simp
 ·intro u hu w hw hlt
  rw [hO,hO]
  have h0 := g.nest u hu w hw hlt
  have hru := g.rO u hu
  by_cases h : v = u
  ·subst h
   rw [if_pos rfl]
   have hwo := hlast w hw hlt
   have hrw := g.rO w hw
   rw [if_neg (by rintro rfl;omega)]
   omega
  ·rw [if_neg h]
   by_cases h' : v = w
   ·subst h'
    rw [if_pos rfl]
    omega
   ·rw [if_neg h'];exact h0
 ·intro u hu w hw hq
  rw [hO] at hq ⊢
  rw [hO]
  have hru := g.rO u hu
  have hrw := g.rO w hw
  have hiw := g.rI w hw
  by_cases h : v = u
  ·subst h
   rw [if_pos rfl] at hq ⊢
   refine ⟨by omega,fun e => ?_⟩
   by_cases h' : v = w
   ·exact h'
   ·rw [if_neg h'] at e;omega
  ·rw [if_neg h] at hq ⊢
   have h0 := g.dis u hu w hw hq
   refine ⟨h0.1,fun e => ?_⟩
   by_cases h' : v = w
   ·rw [if_pos h'] at e;omega
   ·rw [if_neg h'] at e;exact h0.2 e
 ·have := g.cnt
  have hp : 0 < x.P.length := List.length_pos_of_mem hvP
  simp only [List.length_dropLast]
  omega
theorem Good.step {n : Nat} {x : St} (g : Good n x) {e : Ev} (h : kFX n x e) : Good n (x.step e) := by
 obtain ⟨h1,h2⟩ := h
 unfold St.step
 split
 ·rename_i hl
  rw [if_pos hl] at h2
  exact g.leave h2
 ·rename_i hl
  rw [if_neg hl] at h2
  exact g.into h2.1 h2.2
def jZS (n : Nat) : St → List Ev → Prop
 | _,[] => True
 | x,e :: r => kFX n x e ∧ jZS n (x.step e) r
def St.run (x : St) (l : List Ev) : St := l.foldl St.step x
theorem jgM {n : Nat} : ∀ {x : St} {a b : List Ev},jZS n x a → jZS n (x.run a) b → jZS n x (a ++ b) := by
 intro x a
 induction a generalizing x with
 | nil => intro b _ h;exact h
 | cons e a ih => intro b h1 h2;exact ⟨h1.1,ih h1.2 h2⟩
theorem jT3 (x : St) (a b : List Ev) : x.run (a ++ b) = (x.run a).run b := by unfold St.run;rw [List.foldl_append]
theorem Good.run {n : Nat} : ∀ {l : List Ev} {x : St},Good n x → jZS n x l → Good n (x.run l) := by
 intro l
 induction l with
 | nil => intro x g _;exact g
 | cons e l ih => intro x g h;exact ih (g.step h.1) h.2
def Seen (s : List Bool) (x : St) : Prop := ∀ u,u < s.length → (s.getD u true = true ↔ u ∈ x.L)
theorem jm3 {K : Nat → List Int} : ∀ (s : List Bool) (i j c : Nat),(dfs K s i j c).2.1.length = s.length := by
 refine jQT (K := K) ?_ ?_ ?_
 ·intro s i j c h;rw [jND h]
 ·intro s i j c h hk ih;rw [jNI h hk];exact ih
 ·intro s i j c h hk i1 i2;rw [jQC h hk];dsimp only;rw [i2,i1,List.length_set]
theorem jkF {K : Nat → List Int} (n : Nat) : ∀ (s : List Bool) (i j c : Nat) (x : St) (P0 : List Nat),s.length = n → Seen s x → x.P = P0 ++ [i] → x.m = c →
  jZS n x (dfs K s i j c).1 ∧ (x.run (dfs K s i j c).1).P = P0 ∧ (x.run (dfs K s i j c).1).m = (dfs K s i j c).2.2 ∧ Seen (dfs K s i j c).2.1 (x.run (dfs K s i j c).1) := by
 refine jQT (K := K) ?_ ?_ ?_
 ·intro s i j c h x P0 hs hx hP hm
  rw [jND h]
  have e : x.run [(i,0,c,true)] = { x with P := x.P.dropLast,O := x.O.set i (x.m : Int),m := x.m + 1 } := rfl
  refine ⟨⟨⟨hm.symm,?_⟩,trivial⟩,?_,?_,?_⟩
  ·rw [if_pos rfl,hP];simp
  ·rw [e];dsimp only;rw [hP];simp
  ·rw [e];dsimp only;rw [hm]
  ·rw [e];exact hx
 ·intro s i j c h hk ih
  rw [jNI h hk];exact ih
 ·intro s i j c h hk i1 i2 x P0 hs hx hP hm
  have hok := jLV hk
  rw [jQC h hk]
  dsimp only
  generalize hkk : ((K i).getD j 0).toNat = k at *
  have hkn : k < n := by rw [← hs];exact hok.2.1
  have hkL : k ∉ x.L := by
   intro q
   have := (hx k (by omega)).2 q
   rw [List.getD_eq_getElem?_getD,hok.2.2] at this
   cases this
  have e0 : x.step (k,(i : Int),c,false) = { x with L := x.L ++ [k],P := x.P ++ [k],I := x.I.set k (x.m : Int),m := x.m + 1 } := rfl
  have hx1 : Seen (s.set k true) (x.step (k,(i : Int),c,false)) := by
   intro u hu
   rw [List.length_set] at hu
   rw [jNG,e0]
   dsimp only
   rw [List.mem_append,List.mem_singleton]
   by_cases q : k = u
   ·rw [if_pos ⟨q,by omega⟩];simp [q]
   ·rw [if_neg (fun z => q z.1),hx u hu]
    constructor
    ·exact .inl
    ·rintro (z | z)
     ·exact z
     ·exact absurd z.symm q
  obtain ⟨a1,a2,a3,a4⟩ := i1 (x.step (k,(i : Int),c,false)) x.P (by rw [List.length_set];exact hs) hx1 (by rw [e0]) (by rw [e0];dsimp only;rw [hm])
  generalize hr1 : dfs K (s.set k true) k 0 (c + 1) = r1 at *
  have hl1 : r1.2.1.length = n := by rw [← hr1,jm3,List.length_set,hs]
  obtain ⟨b1,b2,b3,b4⟩ := i2 ((x.step (k,(i : Int),c,false)).run r1.1) P0 hl1 a4 (by rw [a2,hP]) a3
  refine ⟨⟨⟨hm.symm,?_⟩,jgM a1 b1⟩,?_,?_,?_⟩
  ·rw [if_neg (by simp)];exact ⟨hkn,hkL⟩
  ·show ((x.step _).run (r1.1 ++ _)).P = P0;rw [jT3];exact b2
  ·show ((x.step _).run (r1.1 ++ _)).m = _;rw [jT3];exact b3
  ·show Seen _ ((x.step _).run (r1.1 ++ _));rw [jT3];exact b4
def st0 (n : Nat) : St := { L := [],P := [],I := List.replicate n (-1),O := List.replicate n (-1),m := 0 }
theorem jYT {α : Type} (n : Nat) (a : α) (u : Nat) : (List.replicate n a).getD u a = a := by
 rw [List.getD_eq_getElem?_getD,List.getElem?_replicate]
 split <;> rfl
theorem kE1 (n : Nat) : Good n (st0 n) := by
 refine ⟨by simp [st0],by simp [st0],by simp [st0],by simp [st0],?_,by simp [st0],by simp [st0],by simp [st0],by simp [st0],by simp [st0],by simp [st0],by simp [st0]⟩
 intro u _
 exact ⟨jYT n _ u,jYT n _ u⟩
theorem jlZ (K : Nat → List Int) (n : Nat) : jZS n (st0 n) (jn0 K n) ∧ ((st0 n).run (jn0 K n)).P = [] := by
 unfold jn0
 split
 ·exact ⟨trivial,rfl⟩
 ·rename_i hn
  have hn : 0 < n := by omega
  have hseen : Seen ((List.replicate n false).set 0 true) ((st0 n).step (0, -1,0,false)) := by
   intro u hu
   rw [List.length_set,List.length_replicate] at hu
   rw [jNG]
   show _ ↔ u ∈ [0]
   rw [List.mem_singleton,List.length_replicate]
   by_cases q : 0 = u
   ·rw [if_pos ⟨q,hn⟩];simp [q]
   ·rw [if_neg (fun z => q z.1),List.getD_eq_getElem?_getD,List.getElem?_replicate,if_pos hu]
    constructor
    ·intro z;cases z
    ·intro z;exact absurd z.symm q
  obtain ⟨a1,a2,a3,a4⟩ := jkF (K := K) n ((List.replicate n false).set 0 true) 0 0 1 ((st0 n).step (0, -1,0,false)) [] (by simp) hseen rfl rfl
  have e : jkX K [(0,0)] ((List.replicate n false).set 0 true) 1 = (dfs K ((List.replicate n false).set 0 true) 0 0 1).1 := by
   rw [jkX,jkX,List.append_nil]
  rw [e]
  exact ⟨⟨⟨rfl,by rw [if_neg (by decide)];exact ⟨hn,by simp [st0]⟩⟩,a1⟩,a2⟩
end Go.Vc

namespace Go.Vc
set_option autoImplicit false
structure Mono (x y : St) : Prop where
 L : ∃ l,y.L = x.L ++ l ∧ ∀ u ∈ l,(x.m : Int) ≤ y.I.getD u (-1)
 I : ∀ u ∈ x.L,y.I.getD u (-1) = x.I.getD u (-1)
 O : ∀ u ∈ x.L,x.O.getD u (-1) ≠ -1 → y.O.getD u (-1) = x.O.getD u (-1)
 O' : ∀ u ∈ x.L,x.O.getD u (-1) = -1 → y.O.getD u (-1) = -1 ∨ (x.m : Int) ≤ y.O.getD u (-1)
 m : x.m ≤ y.m
theorem Mono.refl (x : St) : Mono x x := ⟨⟨[],by simp,by simp⟩,fun _ _ => rfl,fun _ _ _ => rfl,fun _ _ h => .inl h,Nat.le_refl _⟩
theorem Mono.step {n : Nat} {x : St} (g : Good n x) {e : Ev} (h : kFX n x e) : Mono x (x.step e) := by
 obtain ⟨h1,h2⟩ := h
 unfold St.step
 split
 ·rename_i hl
  rw [if_pos hl] at h2
  have hP : e.1 ∈ x.P := List.mem_of_getLast? h2
  rw [g.stk,List.mem_filter] at hP
  have hO : x.O.getD e.1 (-1) = -1 := by simpa using hP.2
  have hn := g.lt _ hP.1
  refine ⟨⟨[],by simp,by simp⟩,fun _ _ => rfl,?_,?_,Nat.le_succ _⟩ <;> dsimp only
  ·intro u hu hq
   rw [jNG]
   by_cases q : e.1 = u
   ·subst q;exact absurd hO hq
   ·rw [if_neg (fun z => q z.1)]
  ·intro u hu hq
   rw [jNG]
   by_cases q : e.1 = u
   ·rw [if_pos ⟨q,by rw [g.lO];exact hn⟩];right;omega
   ·rw [if_neg (fun z => q z.1)];exact .inl hq
 ·rename_i hl
  rw [if_neg hl] at h2
  have hI : ∀ u,(x.I.set e.1 (x.m : Int)).getD u (-1) = if e.1 = u then (x.m : Int) else x.I.getD u (-1) := by
   intro u
   rw [jNG]
   by_cases q : e.1 = u
   ·rw [if_pos q,if_pos ⟨q,by rw [g.lI];exact h2.1⟩]
   ·rw [if_neg q,if_neg (fun z => q z.1)]
  refine ⟨⟨[e.1],rfl,?_⟩,?_,fun _ _ _ => rfl,fun _ _ h => .inl h,Nat.le_succ _⟩ <;> dsimp only
  ·intro u hu
   simp at hu
   rw [hI,if_pos hu.symm];omega
  ·intro u hu
   rw [hI,if_neg (fun q : e.1 = u => h2.2 (q ▸ hu))]
theorem Mono.trans {x y z : St} (a : Mono x y) (b : Mono y z) : Mono x z := by
 obtain ⟨l,e1,h1⟩ := a.L
 obtain ⟨l',e2,h2⟩ := b.L
 have sub : ∀ u ∈ x.L,u ∈ y.L := fun u hu => by rw [e1];exact List.mem_append_left _ hu
 have hm := a.m
 refine ⟨⟨l ++ l',by rw [e2,e1,List.append_assoc],?_⟩,?_,?_,?_,Nat.le_trans a.m b.m⟩
 ·intro u hu
  rcases List.mem_append.1 hu with h | h
  ·rw [b.I u (by rw [e1];exact List.mem_append_right _ h)];exact h1 u h
  ·have := h2 u h;omega
 ·intro u hu;rw [b.I u (sub u hu),a.I u hu]
 ·intro u hu h
  have := a.O u hu h
  rw [b.O u (sub u hu) (by rw [this];exact h),this]
 ·intro u hu h
  rcases a.O' u hu h with q | q
  ·rcases b.O' u (sub u hu) q with r | r
   ·exact .inl r
   ·right;omega
  ·by_cases r : y.O.getD u (-1) = -1
   ·omega
   ·rw [b.O u (sub u hu) r];exact .inr q
theorem Mono.run {n : Nat} : ∀ {l : List Ev} {x : St},Good n x → jZS n x l → Mono x (x.run l) := by
 intro l
 induction l with
 | nil => intro x _ _;exact Mono.refl x
 | cons e l ih => intro x g h;exact (Mono.step g h.1).trans (ih (g.step h.1) h.2)
structure Done (n : Nat) (y : St) : Prop extends Good n y where
 P0 : y.P = []
theorem Done.o {n : Nat} {y : St} (g : Done n y) {u : Nat} (hu : u ∈ y.L) : y.O.getD u (-1) ≠ -1 := by
 intro h
 have : u ∈ y.P := by rw [g.stk,List.mem_filter];exact ⟨hu,by simpa using h⟩
 rw [g.P0] at this;cases this
def jm9 (D : Int) (S : Nat → Prop) (f : Nat → Int) : Prop := 0 ≤ D ∧ (∀ v,S v → f v ≤ D) ∧ (D = 0 ∨ ∃ v,S v ∧ D = f v)
theorem jm9.uniq {D D' : Int} {S : Nat → Prop} {f : Nat → Int} (h : jm9 D S f) (h' : jm9 D' S f) (hf : ∀ v,S v → 0 ≤ f v) : D = D' := by
 obtain ⟨a0,a1,a2⟩ := h
 obtain ⟨b0,b1,b2⟩ := h'
 rcases a2 with rfl | ⟨v,hv,rfl⟩
 ·rcases b2 with rfl | ⟨w,hw,rfl⟩
  ·rfl
  ·have := a1 w hw;omega
 ·have := b1 v hv
  rcases b2 with rfl | ⟨w,hw,rfl⟩
  ·have := hf v hv;omega
  ·have := a1 w hw;omega
def jj6 (K : Nat → List Int) (n : Nat) : St := (st0 n).run (jn0 K n)
theorem jj1 (K : Nat → List Int) (n : Nat) : Done n (jj6 K n) := ⟨(kE1 n).run (jlZ K n).1,(jlZ K n).2⟩
theorem jiD {α : Type} (p : α → Bool) (l : List α) : l.length = (l.filter p).length + (l.filter fun u => !p u).length := by
 induction l with
 | nil => rfl
 | cons a l ih =>
  rw [List.filter_cons,List.filter_cons]
  cases p a <;> simp <;> omega
theorem jkO {n : Nat} : ∀ {l : List Nat},l.Nodup → (∀ u ∈ l,u < n) → l.length ≤ n := by
 induction n with
 | zero =>
  intro l _ h
  cases l with
  | nil => exact Nat.le_refl _
  | cons a l => exact absurd (h a List.mem_cons_self) (by omega)
 | succ n ih =>
  intro l hn h
  have h1 := ih (l := l.filter fun u => !(u == n)) (hn.filter _) (fun u hu => by
   rw [List.mem_filter] at hu
   have := h u hu.1
   have h2 : ¬ u = n := by simpa using hu.2
   omega)
  have h2 : l.length ≤ (l.filter fun u => !(u == n)).length + 1 := by
   have e := jiD (fun u => u == n) l
   have h3 : (l.filter fun u => u == n).length ≤ 1 := by
    rw [← List.countP_eq_length_filter]
    exact List.nodup_iff_count.1 hn n
   omega
  omega
end Go.Vc

namespace Go.Vc
open Go.Proofs
set_option maxRecDepth 10000
set_option maxHeartbeats 4000000
def jKB (l : List jKH) (i : Nat) : List Int := (l.getD i jKA.dflt).2.2.2.2.2.2
end Go.Vc

namespace Go.Vc
open Go.Proofs
set_option maxRecDepth 10000
set_option maxHeartbeats 4000000
def fin (l : List jKH) : St := jj6 (jKB l) l.length
def jOF (l : List Nat) : List Int := List.map (fun u : Nat => (u : Int)) l
theorem jhQ (l : List Nat) (v : Nat) : jOF (l ++ [v]) = jOF l ++ [(v : Int)] := by unfold jOF;rw [List.map_append];rfl
def flat (x : St) : List (Int × Int) := (List.range x.I.length).map fun u => (x.I.getD u (-1),x.O.getD u (-1))
theorem jjT {α : Type} {a b : α} (i n : Nat) (h : i < n) : (List.replicate i a ++ List.replicate (n - i) b).set i a = List.replicate (i + 1) a ++ List.replicate (n - (i + 1)) b := by
 rw [List.set_append_right _ _ (by simp),List.length_replicate,Nat.sub_self]
 obtain ⟨m,hm⟩ : ∃ m,n - i = m + 1 := ⟨n - i - 1,by omega⟩
 rw [hm,List.replicate_succ,List.set_cons_zero,show n - (i + 1) = m by omega,List.replicate_succ']
 simp
end Go.Vc

namespace Go.Vc
set_option autoImplicit false
def sI (I : List Int) : List Bool := I.map fun v => decide (0 ≤ v)
theorem jQW (I : List Int) (k m : Nat) : sI (I.set k (m : Int)) = (sI I).set k true := by
 unfold sI;rw [List.map_set,decide_eq_true (by omega : (0 : Int) ≤ (m : Int))]
theorem juG (n : Nat) : sI (List.replicate n (-1)) = List.replicate n false := by
 unfold sI;rw [List.map_replicate];rfl
theorem jnB (I : List Int) (k : Nat) (h : k < I.length) : (sI I).getD k true = decide (0 ≤ I.getD k 0) := by
 unfold sI;simp [List.getD,h]
def dR (K : Nat → List Int) (x : St) (i j : Nat) : St := x.run (dfs K (sI x.I) i j x.m).1
variable {K : Nat → List Int}
theorem jW3 (x : St) (e : Ev) (l : List Ev) : x.run (e :: l) = (x.step e).run l := rfl
theorem jlR : ∀ (s : List Bool) (i j c : Nat) (x : St),sI x.I = s → x.m = c →
  sI (x.run (dfs K s i j c).1).I = (dfs K s i j c).2.1 ∧ (x.run (dfs K s i j c).1).m = (dfs K s i j c).2.2 := by
 refine jQT (K := K) ?_ ?_ ?_
 ·intro s i j c h x hs hm
  rw [jND h]
  exact ⟨hs,by show x.m + 1 = c + 1;rw [hm]⟩
 ·intro s i j c h hk ih x hs hm
  rw [jNI h hk]
  exact ih x hs hm
 ·intro s i j c h hk i1 i2 x hs hm
  rw [jQC h hk]
  dsimp only
  rw [jW3,jT3]
  have a := i1 (x.step (((K i).getD j 0).toNat,(i : Int),c,false)) (by show sI (x.I.set _ (x.m : Int)) = _;rw [jQW,hs]) (by show x.m + 1 = c + 1;rw [hm])
  exact i2 _ a.1 a.2
theorem jjB {x : St} {i j : Nat} (h : ¬ j < (K i).length) : dR K x i j = x.step (i,0,x.m,true) := by
 unfold dR;rw [jND h];rfl
theorem jhP {x : St} {i j : Nat} (h : j < (K i).length) (hk : okK (sI x.I) ((K i).getD j 0) = false) : dR K x i j = dR K x i (j + 1) := by
 unfold dR;rw [jNI h hk]
theorem jnG {x : St} {i j : Nat} (h : j < (K i).length) (hk : okK (sI x.I) ((K i).getD j 0) = true) :
    dR K x i j = dR K (dR K (x.step (((K i).getD j 0).toNat,(i : Int),x.m,false)) ((K i).getD j 0).toNat 0) i (j + 1) := by
  have hI : sI (x.step (((K i).getD j 0).toNat,(i : Int),x.m,false)).I = (sI x.I).set ((K i).getD j 0).toNat true := jQW ..
  have hm : (x.step (((K i).getD j 0).toNat,(i : Int),x.m,false)).m = x.m + 1 := rfl
  have a := jlR (K := K) _ ((K i).getD j 0).toNat 0 _ _ hI hm
  have e1 : dR K (x.step (((K i).getD j 0).toNat,(i : Int),x.m,false)) ((K i).getD j 0).toNat 0 =
      (x.step (((K i).getD j 0).toNat,(i : Int),x.m,false)).run (dfs K ((sI x.I).set ((K i).getD j 0).toNat true) ((K i).getD j 0).toNat 0 (x.m + 1)).1 := by
    unfold dR;rw [hI,hm]
  rw [e1]
  generalize hy : (x.step (((K i).getD j 0).toNat,(i : Int),x.m,false)).run (dfs K ((sI x.I).set ((K i).getD j 0).toNat true) ((K i).getD j 0).toNat 0 (x.m + 1)).1 = y at *
  unfold dR
  rw [a.1,a.2,jQC h hk]
  dsimp only
  rw [jW3,jT3,hy]
theorem jpN {P : St → Nat → Nat → Prop} (he : ∀ x i j,¬ j < (K i).length → P x i j) (hb : ∀ x i j,j < (K i).length → okK (sI x.I) ((K i).getD j 0) = false → P x i (j + 1) → P x i j)
  (ho : ∀ x i j,j < (K i).length → okK (sI x.I) ((K i).getD j 0) = true → P (x.step (((K i).getD j 0).toNat,(i : Int),x.m,false)) ((K i).getD j 0).toNat 0 →
   P (dR K (x.step (((K i).getD j 0).toNat,(i : Int),x.m,false)) ((K i).getD j 0).toNat 0) i (j + 1) → P x i j) : ∀ x i j,P x i j := by
 have main : ∀ (s : List Bool) (i j c : Nat) (x : St),sI x.I = s → x.m = c → P x i j := by
  refine jQT (K := K) ?_ ?_ ?_
  ·intro s i j c h x hs hm;exact he x i j h
  ·intro s i j c h hk ih x hs hm;subst hs;exact hb x i j h hk (ih x rfl hm)
  ·intro s i j c h hk i1 i2 x hs hm
   subst hs;subst hm
   have hI : sI (x.step (((K i).getD j 0).toNat,(i : Int),x.m,false)).I = (sI x.I).set ((K i).getD j 0).toNat true := jQW ..
   have a := jlR (K := K) _ ((K i).getD j 0).toNat 0 (x.m + 1) (x.step (((K i).getD j 0).toNat,(i : Int),x.m,false)) hI rfl
   refine ho x i j h hk (i1 _ hI rfl) (i2 _ ?_ ?_)
   ·unfold dR;rw [hI];exact a.1
   ·unfold dR;rw [hI];exact a.2
 exact fun x i j => main _ i j _ x rfl rfl
theorem jmI : ∀ (x : St) (i j : Nat),(dR K x i j).m + 2 * unseen (sI (dR K x i j).I) ≤ x.m + 2 * unseen (sI x.I) + 1 ∧ (dR K x i j).I.length = x.I.length ∧ (dR K x i j).O.length = x.O.length ∧
  (dR K x i j).L.length + x.m ≤ x.L.length + (dR K x i j).m ∧ unseen (sI (dR K x i j).I) ≤ unseen (sI x.I) := by
 refine jpN (K := K) ?_ ?_ ?_
 ·intro x i j h
  rw [jjB h]
  refine ⟨?_,rfl,List.length_set ..,?_,Nat.le_refl _⟩
  ·show x.m + 1 + _ ≤ _;exact Nat.le_of_eq (by show x.m + 1 + 2 * unseen (sI x.I) = _;omega)
  ·show x.L.length + x.m ≤ x.L.length + (x.m + 1);omega
 ·intro x i j h hk ih
  rw [jhP h hk];exact ih
 ·intro x i j h hk i1 i2
  rw [jnG h hk]
  have hI : sI (x.step (((K i).getD j 0).toNat,(i : Int),x.m,false)).I = (sI x.I).set ((K i).getD j 0).toNat true := jQW ..
  have hu := jK9 (jLV hk).2.2
  have hm : (x.step (((K i).getD j 0).toNat,(i : Int),x.m,false)).m = x.m + 1 := rfl
  have hL : (x.step (((K i).getD j 0).toNat,(i : Int),x.m,false)).L.length = x.L.length + 1 := by
   show (x.L ++ [_]).length = _;simp
  have hIl : (x.step (((K i).getD j 0).toNat,(i : Int),x.m,false)).I.length = x.I.length := List.length_set ..
  have hOl : (x.step (((K i).getD j 0).toNat,(i : Int),x.m,false)).O.length = x.O.length := rfl
  rw [hI,hm,hL,hIl,hOl] at i1
  exact ⟨by omega,by omega,by omega,by omega,by omega⟩
def StE (x y : St) : Prop := x.L = y.L ∧ x.I = y.I ∧ x.O = y.O ∧ x.m = y.m
theorem StE.step {x y : St} (h : StE x y) {e e' : Ev} (h1 : e.1 = e'.1) (h2 : e.2.2.2 = e'.2.2.2) : StE (x.step e) (y.step e') := by
 obtain ⟨a,b,c,d⟩ := h
 unfold St.step
 rw [← h2]
 split
 ·exact ⟨a,b,by dsimp only;rw [c,d,h1],by dsimp only;rw [d]⟩
 ·exact ⟨by dsimp only;rw [a,h1],by dsimp only;rw [b,d,h1],c,by dsimp only;rw [d]⟩
theorem StE.run : ∀ {l : List Ev} {x y : St},StE x y → StE (x.run l) (y.run l) := by
 intro l
 induction l with
 | nil => intro x y h;exact h
 | cons e l ih => intro x y h;exact ih (h.step rfl rfl)
theorem StE.dR {x y : St} (h : StE x y) (i j : Nat) : StE (dR K x i j) (dR K y i j) := by
 unfold Go.Vc.dR
 rw [← h.2.1, ← h.2.2.2]
 exact h.run
def wkS (K : Nat → List Int) (L : List Nat) (I O : List Int) (i m : Nat) : St := dR K (({ L := L,P := [],I := I,O := O,m := m } : St).step (i,0,m,false)) i 0
theorem jr7 (K : Nat → List Int) (n : Nat) (h : 0 < n) : StE (jj6 K n) (wkS K [] (List.replicate n (-1)) (List.replicate n (-1)) 0 0) := by
 have e : jj6 K n = dR K ((st0 n).step (0, -1,0,false)) 0 0 := by
  unfold jj6 jn0 dR
  rw [if_neg (by omega)]
  have e2 : sI ((st0 n).step (0, -1,0,false)).I = (List.replicate n false).set 0 true := by
   show sI ((List.replicate n (-1)).set 0 ((0 : Nat) : Int)) = _
   rw [jQW,juG]
  have e3 : ((st0 n).step (0, -1,0,false)).m = 1 := rfl
  rw [e2,e3,jW3,jkX,jkX,List.append_nil]
 rw [e]
 unfold wkS
 exact (StE.step (x := st0 n) ⟨rfl,rfl,rfl,rfl⟩ rfl rfl).dR 0 0
end Go.Vc

namespace Go.Vc
open Go.Proofs
set_option maxRecDepth 10000
set_option maxHeartbeats 4000000
def jr0 (t : List jKH) (L : List Nat) (I O : List Int) (k : Int) (m : Nat) : Prop :=
 t.length ≤ 45 ∧ I.length = t.length ∧ O.length = t.length ∧ (0 ≤ k ∧ k < t.length) ∧ m + 2 * unseen (sI (I.set k.toNat (m : Int))) + 2 ≤ 200 ∧ L.length ≤ m
theorem jfL {I : List Int} {n : Nat} (hI : I.length = n) (k : Int) : (decide (k ≥ 0) && decide (k < (n : Int)) && decide (I.getD k.toNat 0 < 0)) = okK (sI I) k := by
  unfold okK
  by_cases h1 : k < 0
  · rw [decide_eq_false (by omega : ¬ k ≥ 0)];rfl
  · rw [decide_eq_true (by omega : k ≥ 0)]
    by_cases h2 : k < (n : Int)
    · rw [decide_eq_true h2,jnB I k.toNat (by omega)]
      by_cases h3 : I.getD k.toNat 0 < 0
      · rw [decide_eq_true h3,decide_eq_false (by omega : ¬ 0 ≤ I.getD k.toNat 0)];rfl
      · rw [decide_eq_false h3,decide_eq_true (by omega : 0 ≤ I.getD k.toNat 0)];rfl
    · have : (sI I).getD k.toNat true = true := by
        rw [List.getD_eq_getElem?_getD,List.getElem?_eq_none (by unfold sI;rw [List.length_map];omega)];rfl
      rw [decide_eq_false h2,this];rfl
theorem jrH (N : Nat) : ∀ (t : List jKH) (L : List Nat) (I O : List Int) (k : Int) (m : Nat),
  FnM BB 117 [.agg [.rd jKA t],.int .i64 k,.own 0,.own 1,.own 2,.int .i64 m] [(0,.own jKG (jOF L)),(1,.ow jKG I),(2,.ow jKG O)]
   (jr0 t L I O k m ∧ unseen (sI (I.set k.toNat (m : Int))) < N)
   (.tup [.own 0,.int .i64 ((wkS (jKB t) L I O k.toNat m).m : Int)]) [(0,.own jKG (jOF (wkS (jKB t) L I O k.toNat m).L)),(1,.ow jKG (wkS (jKB t) L I O k.toNat m).I),(2,.ow jKG (wkS (jKB t) L I O k.toNat m).O)] := by
 induction N with
 | zero => intro t L I O k m;exact ⟨Tryz.call117,fun h => absurd h.2 (Nat.not_lt_zero _)⟩
 | succ N ih =>
  intro t L I O k m
  refine FnM.intro (N := 79) [0,1,2,3,4,5,6,12,13,14,15,34,61] [] 3 Tryz.call117 Tryz.func117 rfl rfl (by kernel_rfl) (fun hpre => ?_)
  repeat' ((conv => whnf);first|(with_reducible first|rfl|exact jKE|exact jKD)|exact True.intro|intro _|refine WA ?_ ?_|refine WF ?_|refine W1 rfl ?_ ?_|refine W2 rfl ?_ ?_|refine W3 rfl ?_ ?_|refine W4 ?_ ?_|refine W5 rfl ?_ ?_|refine W6 ?_ ?_|refine WN ?_|refine X1 (W1 rfl ?_ ?_)|refine X1 (W2 rfl ?_ ?_)|refine X2 (W7 rfl ?_ ?_)|refine X3 (W7 rfl ?_ ?_)|refine X4 (W7 rfl ?_ ?_)|refine X5 (W7 rfl ?_ ?_))
  all_goals (try (conv => whnf))
  all_goals (try first|exact obA|refine Ob.mk ?_)
  all_goals (obtain ⟨⟨ht,hIl,hOl,hk,hm,hL⟩,hN⟩ := hpre)
  ·have : (jOF L).length = L.length := by unfold jOF;simp
   rw [this,List.length_singleton]
   simp only [bytes3,jh4]
   omega
  ·omega
  ·omega
  ·constructor <;> omega
  generalize hx0 : (({ L := L,P := [],I := I,O := O,m := m } : St).step (k.toNat,0,m,false)) = x0
  have hxI : x0.I = I.set k.toNat (m : Int) := by rw [← hx0];rfl
  have hxL : x0.L = L ++ [k.toNat] := by rw [← hx0];rfl
  have hxO : x0.O = O := by rw [← hx0];rfl
  have hxm : x0.m = m + 1 := by rw [← hx0];rfl
  have hwk : wkS (jKB t) L I O k.toNat m = dR (jKB t) x0 k.toNat 0 := by unfold wkS;rw [hx0]
  rw [hwk]
  refine LoopStop.mk (α := St × Nat) (fun a => [(5,.int .i64 a.1.m),(14,.int .i64 a.2)]) (fun a => [(0,.own jKG (jOF a.1.L)),(1,.ow jKG a.1.I),(2,.ow jKG a.1.O)]) 60
   (fun a => dR (jKB t) a.1 k.toNat a.2 = dR (jKB t) x0 k.toNat 0 ∧ a.1.I.length = t.length ∧ a.1.O.length = t.length ∧ a.1.m + 2 * unseen (sI a.1.I) + 1 ≤ 200 ∧ a.1.L.length ≤ a.1.m ∧ unseen (sI a.1.I) ≤ N ∧ a.2 ≤ (jKB t k.toNat).length)
   (fun a => (jKB t k.toNat).length - a.2) (x0,0) ⟨rfl,by rw [hxI,List.length_set];exact hIl,by rw [hxO];exact hOl,by rw [hxI,hxm];omega,by rw [hxL,hxm,List.length_append,List.length_singleton];omega,by rw [hxI];omega,Nat.zero_le _⟩ ?_ (fun a ha => ?_)
  ·repeat' ((conv => whnf);first|(with_reducible first|rfl|exact jKE|exact jKD)|exact True.intro|intro _|refine WA ?_ ?_|refine WF ?_|refine W1 rfl ?_ ?_|refine W2 rfl ?_ ?_|refine W3 rfl ?_ ?_|refine W4 ?_ ?_|refine W5 rfl ?_ ?_|refine W6 ?_ ?_|refine WN ?_|refine X1 (W1 rfl ?_ ?_)|refine X1 (W2 rfl ?_ ?_)|refine X2 (W7 rfl ?_ ?_)|refine X3 (W7 rfl ?_ ?_)|refine X4 (W7 rfl ?_ ?_)|refine X5 (W7 rfl ?_ ?_))
   all_goals (try (conv => whnf))
   all_goals (try first|exact obA|refine Ob.mk ?_)
   ·show (m : Int) + 1 = (x0.m : Int);rw [hxm];omega
   ·show Chunk.own jKG _ = Chunk.own jKG (jOF x0.L)
    rw [hxL,jhQ,Int.toNat_of_nonneg hk.1]
   ·show Chunk.ow jKG _ = Chunk.ow jKG x0.I
    rw [hxI]
   ·show Chunk.ow jKG _ = Chunk.ow jKG x0.O
    rw [hxO]
  ·obtain ⟨x,j⟩ := a
   dsimp only at ha ⊢
   obtain ⟨hD,hI2,hO2,hm2,hL2,hu2,hj2⟩ := ha
   repeat' ((conv => whnf);first|(with_reducible first|rfl|exact jKE|exact jKD)|exact True.intro|intro _|refine WA ?_ ?_|refine WF ?_|refine W1 rfl ?_ ?_|refine W2 rfl ?_ ?_|refine W3 rfl ?_ ?_|refine W4 ?_ ?_|refine W5 rfl ?_ ?_|refine W6 ?_ ?_|refine WN ?_|refine X1 (W1 rfl ?_ ?_)|refine X1 (W2 rfl ?_ ?_)|refine X2 (W7 rfl ?_ ?_)|refine X3 (W7 rfl ?_ ?_)|refine X4 (W7 rfl ?_ ?_)|refine X5 (W7 rfl ?_ ?_))
   all_goals (try (conv => whnf))
   all_goals (try first|exact obA|refine Ob.mk ?_)
   all_goals (try simp only [Int.toNat_natCast] at *)
   ·rename_i h1 h2 h3
    have hc : okK (sI x.I) ((jKB t k.toNat).getD j 0) = true := by rw [← jfL hI2];exact h3
    have hks := jLV hc
    have hls : (sI x.I).length = t.length := by unfold sI;rw [List.length_map];exact hI2
    have hu := jK9 hks.2.2
    rw [← jQW x.I ((jKB t k.toNat).getD j 0).toNat x.m] at hu
    show jr0 t x.L x.I x.O ((jKB t k.toNat).getD j 0) x.m ∧ unseen (sI (x.I.set ((jKB t k.toNat).getD j 0).toNat (x.m : Int))) < N
    exact ⟨⟨ht,hI2,hO2,⟨hks.1,by omega⟩,by omega,hL2⟩,by omega⟩
   ·rename_i h1 h2 h3
    have hj : j < (jKB t k.toNat).length := by have h := of_decide_eq_true h2;exact Int.ofNat_lt.mp h
    have hc : okK (sI x.I) ((jKB t k.toNat).getD j 0) = true := by rw [← jfL hI2];exact h3
    rw [jnG hj hc] at hD
    have hks := jLV hc
    have hu := jK9 hks.2.2
    rw [← jQW x.I ((jKB t k.toNat).getD j 0).toNat x.m] at hu
    have hb := jmI (K := jKB t) (x.step (((jKB t k.toNat).getD j 0).toNat,(k.toNat : Int),x.m,false)) ((jKB t k.toNat).getD j 0).toNat 0
    have e1 : (x.step (((jKB t k.toNat).getD j 0).toNat,(k.toNat : Int),x.m,false)).m = x.m + 1 := rfl
    have e2 : (x.step (((jKB t k.toNat).getD j 0).toNat,(k.toNat : Int),x.m,false)).I = x.I.set ((jKB t k.toNat).getD j 0).toNat (x.m : Int) := rfl
    have e3 : (x.step (((jKB t k.toNat).getD j 0).toNat,(k.toNat : Int),x.m,false)).O = x.O := rfl
    have e4 : (x.step (((jKB t k.toNat).getD j 0).toNat,(k.toNat : Int),x.m,false)).L.length = x.L.length + 1 := by show (x.L ++ [_]).length = _;simp
    have hE : StE (wkS (jKB t) x.L x.I x.O ((jKB t k.toNat).getD j 0).toNat x.m) (dR (jKB t) (x.step (((jKB t k.toNat).getD j 0).toNat,(k.toNat : Int),x.m,false)) ((jKB t k.toNat).getD j 0).toNat 0) := by
     unfold wkS
     exact StE.dR (StE.step (x := { L := x.L,P := [],I := x.I,O := x.O,m := x.m }) (y := x) ⟨rfl,rfl,rfl,rfl⟩ rfl rfl) _ _
    rw [e1,e2,e3,e4,List.length_set] at hb
    generalize dR (jKB t) (x.step (((jKB t k.toNat).getD j 0).toNat,(k.toNat : Int),x.m,false)) ((jKB t k.toNat).getD j 0).toNat 0 = y at *
    refine Rnd.mk ⟨(y,j + 1),⟨hD,by show y.I.length = _;omega,by show y.O.length = _;omega,by show y.m + 2 * unseen (sI y.I) + 1 ≤ 200;omega,by show y.L.length ≤ y.m;omega,by show unseen (sI y.I) ≤ N;omega,by show j + 1 ≤ _;omega⟩,by show _ - (j + 1) < _;omega,?_⟩
    repeat' ((conv => whnf);first|(with_reducible first|rfl|exact jKE|exact jKD)|exact True.intro|intro _|refine WA ?_ ?_|refine WF ?_|refine W1 rfl ?_ ?_|refine W2 rfl ?_ ?_|refine W3 rfl ?_ ?_|refine W4 ?_ ?_|refine W5 rfl ?_ ?_|refine W6 ?_ ?_|refine WN ?_|refine X1 (W1 rfl ?_ ?_)|refine X1 (W2 rfl ?_ ?_)|refine X2 (W7 rfl ?_ ?_)|refine X3 (W7 rfl ?_ ?_)|refine X4 (W7 rfl ?_ ?_)|refine X5 (W7 rfl ?_ ?_))
    all_goals (try (conv => whnf))
    all_goals (try first|exact obA|refine Ob.mk ?_)
    ·show ((wkS (jKB t) x.L x.I x.O ((jKB t k.toNat).getD j 0).toNat x.m).m : Int) = (y.m : Int)
     rw [hE.2.2.2]
    all_goals (try rfl)
    ·show Chunk.own jKG (jOF (wkS (jKB t) x.L x.I x.O ((jKB t k.toNat).getD j 0).toNat x.m).L) = Chunk.own jKG (jOF y.L)
     rw [hE.1]
    ·show Chunk.ow jKG (wkS (jKB t) x.L x.I x.O ((jKB t k.toNat).getD j 0).toNat x.m).I = Chunk.ow jKG y.I
     rw [hE.2.1]
    ·show Chunk.ow jKG (wkS (jKB t) x.L x.I x.O ((jKB t k.toNat).getD j 0).toNat x.m).O = Chunk.ow jKG y.O
     rw [hE.2.2.1]
   ·rename_i h1 h2 h3
    have hj : j < (jKB t k.toNat).length := by have h := of_decide_eq_true h2;exact Int.ofNat_lt.mp h
    have hc : okK (sI x.I) ((jKB t k.toNat).getD j 0) = false := by rw [← jfL hI2];exact h3
    rw [jhP hj hc] at hD
    refine Rnd.mk ⟨(x,j + 1),⟨hD,hI2,hO2,hm2,hL2,hu2,by show j + 1 ≤ _;omega⟩,by show _ - (j + 1) < _;omega,?_⟩
    all_goals exact vcA
   all_goals (rename_i h1 h2)
   all_goals (have hj : ¬ j < (jKB t k.toNat).length := by have h := of_decide_eq_false h2;exact fun q => h (Int.ofNat_lt.mpr q))
   all_goals (rw [jjB hj] at hD;rw [← hD])
   ·rfl
   ·rfl
   ·rfl
   ·rfl
instance hWalk (t : List jKH) (L : List Nat) (I O : List Int) (k : Int) (m : Nat) :
  FnM BB 117 [.agg [.rd jKA t],.int .i64 k,.own 0,.own 1,.own 2,.int .i64 m] [(0,.own jKG (jOF L)),(1,.ow jKG I),(2,.ow jKG O)]
   (jr0 t L I O k m)
   (.tup [.own 0,.int .i64 ((wkS (jKB t) L I O k.toNat m).m : Int)]) [(0,.own jKG (jOF (wkS (jKB t) L I O k.toNat m).L)),(1,.ow jKG (wkS (jKB t) L I O k.toNat m).I),(2,.ow jKG (wkS (jKB t) L I O k.toNat m).O)] :=
 have h := jrH (unseen (sI (I.set k.toNat (m : Int))) + 1) t L I O k m
 ⟨h.call,fun hp => h.ok ⟨hp,Nat.lt_succ_self _⟩⟩
end Go.Vc

namespace Go.Vc
open Go.Proofs
set_option maxRecDepth 10000
set_option maxHeartbeats 4000000
instance hWalk0 (t : List jKH) (I O : List Int) :
  FnM BB 117 [.agg [.rd jKA t],.int .i64 0,.nils,.own 0,.own 1,.int .i64 0] [(0,.ow jKG I),(1,.ow jKG O)]
   (jr0 t [] I O 0 0)
   (.tup [.own 2,.int .i64 ((wkS (jKB t) [] I O 0 0).m : Int)]) [(0,.ow jKG (wkS (jKB t) [] I O 0 0).I),(1,.ow jKG (wkS (jKB t) [] I O 0 0).O),(2,.own jKG (jOF (wkS (jKB t) [] I O 0 0).L))] := by
 refine FnM.intro (N := 79) [0,1,2,3,4,5,6,12,13,14,15,34,61] [] 2 Tryz.call117 Tryz.func117 rfl rfl (by kernel_rfl) (fun hpre => ?_)
 repeat' ((conv => whnf);first|(with_reducible first|rfl|exact jKE|exact jKD)|exact True.intro|intro _|refine WA ?_ ?_|refine WF ?_|refine W1 rfl ?_ ?_|refine W2 rfl ?_ ?_|refine W3 rfl ?_ ?_|refine W4 ?_ ?_|refine W5 rfl ?_ ?_|refine W6 ?_ ?_|refine WN ?_|refine X1 (W1 rfl ?_ ?_)|refine X1 (W2 rfl ?_ ?_)|refine X2 (W7 rfl ?_ ?_)|refine X3 (W7 rfl ?_ ?_)|refine X4 (W7 rfl ?_ ?_)|refine X5 (W7 rfl ?_ ?_))
 all_goals (try (conv => whnf))
 all_goals (try first|exact obA|refine Ob.mk ?_)
 all_goals (obtain ⟨ht,hIl,hOl,hk,hm,hL⟩ := hpre)
 ·show 0 ≤ (0 : Int) ∧ (0 : Int) < (I.length : Int);omega
 ·show 0 < I.length;omega
 have hk0 : (0 : Int).toNat = 0 := rfl
 generalize hx0 : (({ L := [],P := [],I := I,O := O,m := 0 } : St).step (0,0,0,false)) = x0
 have hxI : x0.I = I.set 0 0 := by rw [← hx0];rfl
 have hxL : x0.L = [0] := by rw [← hx0];rfl
 have hxO : x0.O = O := by rw [← hx0];rfl
 have hxm : x0.m = 1 := by rw [← hx0];rfl
 have hwk : wkS (jKB t) [] I O 0 0 = dR (jKB t) x0 0 0 := by unfold wkS;rw [hx0]
 rw [hwk]
 have hm : 2 * unseen (sI (I.set 0 0)) + 2 ≤ 200 := by have h : 0 + 2 * unseen (sI (I.set (0 : Int).toNat ((0 : Nat) : Int))) + 2 ≤ 200 := hm;have e : I.set (0 : Int).toNat ((0 : Nat) : Int) = I.set 0 0 := rfl;rw [e] at h;omega
 refine LoopStop.mk (α := St × Nat) (fun a => [(5,.int .i64 a.1.m),(14,.int .i64 a.2)]) (fun a => [(4,.own jKG (jOF a.1.L)),(0,.ow jKG a.1.I),(1,.ow jKG a.1.O)]) 60
  (fun a => dR (jKB t) a.1 0 a.2 = dR (jKB t) x0 0 0 ∧ a.1.I.length = t.length ∧ a.1.O.length = t.length ∧ a.1.m + 2 * unseen (sI a.1.I) + 1 ≤ 200 ∧ a.1.L.length ≤ a.1.m ∧ a.2 ≤ (jKB t 0).length)
  (fun a => (jKB t 0).length - a.2) (x0,0) ⟨rfl,by rw [hxI,List.length_set];exact hIl,by rw [hxO];exact hOl,by rw [hxI,hxm];omega,by rw [hxL,hxm];decide,Nat.zero_le _⟩ ?_ (fun a ha => ?_)
 ·repeat' ((conv => whnf);first|(with_reducible first|rfl|exact jKE|exact jKD)|exact True.intro|intro _|refine WA ?_ ?_|refine WF ?_|refine W1 rfl ?_ ?_|refine W2 rfl ?_ ?_|refine W3 rfl ?_ ?_|refine W4 ?_ ?_|refine W5 rfl ?_ ?_|refine W6 ?_ ?_|refine WN ?_|refine X1 (W1 rfl ?_ ?_)|refine X1 (W2 rfl ?_ ?_)|refine X2 (W7 rfl ?_ ?_)|refine X3 (W7 rfl ?_ ?_)|refine X4 (W7 rfl ?_ ?_)|refine X5 (W7 rfl ?_ ?_))
  all_goals (try (conv => whnf))
  all_goals (try first|exact obA|refine Ob.mk ?_)
  ·show _ = (x0.m : Int);rw [hxm];rfl
  ·show Chunk.own jKG _ = Chunk.own jKG (jOF x0.L)
   rw [hxL];rfl
  ·show Chunk.ow jKG _ = Chunk.ow jKG x0.I
   rw [hxI];rfl
  ·show Chunk.ow jKG _ = Chunk.ow jKG x0.O
   rw [hxO]
 ·obtain ⟨x,j⟩ := a
  dsimp only at ha ⊢
  obtain ⟨hD,hI2,hO2,hm2,hL2,hj2⟩ := ha
  repeat' ((conv => whnf);first|(with_reducible first|rfl|exact jKE|exact jKD)|exact True.intro|intro _|refine WA ?_ ?_|refine WF ?_|refine W1 rfl ?_ ?_|refine W2 rfl ?_ ?_|refine W3 rfl ?_ ?_|refine W4 ?_ ?_|refine W5 rfl ?_ ?_|refine W6 ?_ ?_|refine WN ?_|refine X1 (W1 rfl ?_ ?_)|refine X1 (W2 rfl ?_ ?_)|refine X2 (W7 rfl ?_ ?_)|refine X3 (W7 rfl ?_ ?_)|refine X4 (W7 rfl ?_ ?_)|refine X5 (W7 rfl ?_ ?_))
  all_goals (try (conv => whnf))
  all_goals (try first|exact obA|refine Ob.mk ?_)
  all_goals (try simp only [Int.toNat_natCast] at *)
  ·rename_i h1 h2 h3
   have hc : okK (sI x.I) ((jKB t 0).getD j 0) = true := by rw [← jfL hI2];exact h3
   have hks := jLV hc
   have hls : (sI x.I).length = t.length := by unfold sI;rw [List.length_map];exact hI2
   have hu := jK9 hks.2.2
   rw [← jQW x.I ((jKB t 0).getD j 0).toNat x.m] at hu
   show jr0 t x.L x.I x.O ((jKB t 0).getD j 0) x.m
   exact ⟨ht,hI2,hO2,⟨hks.1,by omega⟩,by omega,hL2⟩
  ·rename_i h1 h2 h3
   have hj : j < (jKB t 0).length := by have h := of_decide_eq_true h2;exact Int.ofNat_lt.mp h
   have hc : okK (sI x.I) ((jKB t 0).getD j 0) = true := by rw [← jfL hI2];exact h3
   rw [jnG hj hc] at hD
   have hks := jLV hc
   have hu := jK9 hks.2.2
   rw [← jQW x.I ((jKB t 0).getD j 0).toNat x.m] at hu
   have hb := jmI (K := jKB t) (x.step (((jKB t 0).getD j 0).toNat,(0 : Int),x.m,false)) ((jKB t 0).getD j 0).toNat 0
   have e1 : (x.step (((jKB t 0).getD j 0).toNat,(0 : Int),x.m,false)).m = x.m + 1 := rfl
   have e2 : (x.step (((jKB t 0).getD j 0).toNat,(0 : Int),x.m,false)).I = x.I.set ((jKB t 0).getD j 0).toNat (x.m : Int) := rfl
   have e3 : (x.step (((jKB t 0).getD j 0).toNat,(0 : Int),x.m,false)).O = x.O := rfl
   have e4 : (x.step (((jKB t 0).getD j 0).toNat,(0 : Int),x.m,false)).L.length = x.L.length + 1 := by show (x.L ++ [_]).length = _;simp
   have hE : StE (wkS (jKB t) x.L x.I x.O ((jKB t 0).getD j 0).toNat x.m) (dR (jKB t) (x.step (((jKB t 0).getD j 0).toNat,(0 : Int),x.m,false)) ((jKB t 0).getD j 0).toNat 0) := by
    unfold wkS
    exact StE.dR (StE.step (x := { L := x.L,P := [],I := x.I,O := x.O,m := x.m }) (y := x) ⟨rfl,rfl,rfl,rfl⟩ rfl rfl) _ _
   rw [e1,e2,e3,e4,List.length_set] at hb
   generalize dR (jKB t) (x.step (((jKB t 0).getD j 0).toNat,(0 : Int),x.m,false)) ((jKB t 0).getD j 0).toNat 0 = y at *
   refine Rnd.mk ⟨(y,j + 1),⟨hD,by show y.I.length = _;omega,by show y.O.length = _;omega,by show y.m + 2 * unseen (sI y.I) + 1 ≤ 200;omega,by show y.L.length ≤ y.m;omega,by show j + 1 ≤ _;omega⟩,by show _ - (j + 1) < _;omega,?_⟩
   repeat' ((conv => whnf);first|(with_reducible first|rfl|exact jKE|exact jKD)|exact True.intro|intro _|refine WA ?_ ?_|refine WF ?_|refine W1 rfl ?_ ?_|refine W2 rfl ?_ ?_|refine W3 rfl ?_ ?_|refine W4 ?_ ?_|refine W5 rfl ?_ ?_|refine W6 ?_ ?_|refine WN ?_|refine X1 (W1 rfl ?_ ?_)|refine X1 (W2 rfl ?_ ?_)|refine X2 (W7 rfl ?_ ?_)|refine X3 (W7 rfl ?_ ?_)|refine X4 (W7 rfl ?_ ?_)|refine X5 (W7 rfl ?_ ?_))
   all_goals (try (conv => whnf))
   all_goals (try first|exact obA|refine Ob.mk ?_)
   ·show ((wkS (jKB t) x.L x.I x.O ((jKB t 0).getD j 0).toNat x.m).m : Int) = (y.m : Int)
    rw [hE.2.2.2]
   all_goals (try rfl)
   ·show Chunk.own jKG (jOF (wkS (jKB t) x.L x.I x.O ((jKB t 0).getD j 0).toNat x.m).L) = Chunk.own jKG (jOF y.L)
    rw [hE.1]
   ·show Chunk.ow jKG (wkS (jKB t) x.L x.I x.O ((jKB t 0).getD j 0).toNat x.m).I = Chunk.ow jKG y.I
    rw [hE.2.1]
   ·show Chunk.ow jKG (wkS (jKB t) x.L x.I x.O ((jKB t 0).getD j 0).toNat x.m).O = Chunk.ow jKG y.O
    rw [hE.2.2.1]
  ·rename_i h1 h2 h3
   have hj : j < (jKB t 0).length := by have h := of_decide_eq_true h2;exact Int.ofNat_lt.mp h
   have hc : okK (sI x.I) ((jKB t 0).getD j 0) = false := by rw [← jfL hI2];exact h3
   rw [jhP hj hc] at hD
   refine Rnd.mk ⟨(x,j + 1),⟨hD,hI2,hO2,hm2,hL2,by show j + 1 ≤ _;omega⟩,by show _ - (j + 1) < _;omega,?_⟩
   all_goals exact vcA
  all_goals (rename_i h1 h2)
  all_goals (have hj : ¬ j < (jKB t 0).length := by have h := of_decide_eq_false h2;exact fun q => h (Int.ofNat_lt.mpr q))
  all_goals (rw [jjB hj] at hD;rw [← hD])
  ·rfl
  ·rfl
  ·rfl
  ·rfl
theorem jeO (s : List Bool) : unseen s ≤ s.length := by unfold unseen;exact List.count_le_length
instance hAll (l : List jKH) : Fn BB 61 [.agg [.rd jKA l]] (l.length ≤ 45) (.tup [.rd jKG (jOF (fin l).L),.rd jKG (fin l).I,.rd jKG (fin l).O]) := by
 refine Fn.intro (N := 42) [0,1,2,3,4,5,6,7,8,20,31] [(1,[0,0,0,6,0,0,0,6,6,6]),(2000007,[1,2])] Tryz.call61 Tryz.func61 rfl rfl (by kernel_rfl) (fun hpre => ?_)
 repeat' ((conv => whnf);first|(with_reducible first|rfl|exact jKE|exact jKD)|exact True.intro|intro _|refine WA ?_ ?_|refine WF ?_|refine W1 rfl ?_ ?_|refine W2 rfl ?_ ?_|refine W3 rfl ?_ ?_|refine W4 ?_ ?_|refine W5 rfl ?_ ?_|refine W6 ?_ ?_|refine WN ?_|refine X1 (W1 rfl ?_ ?_)|refine X1 (W2 rfl ?_ ?_)|refine X2 (W7 rfl ?_ ?_)|refine X3 (W7 rfl ?_ ?_)|refine X4 (W7 rfl ?_ ?_)|refine X5 (W7 rfl ?_ ?_))
 all_goals (try (conv => whnf))
 all_goals (try first|exact obA|refine Ob.mk ?_)
 all_goals (try simp only [bytes3,jh4] at *)
 all_goals (try omega)
 all_goals (rw [show ((l.length : Int)).toNat = l.length by omega])
 refine LoopStop.mk (α := Nat) (fun i => [(7,.int .i64 i)]) (fun i => [(1,.own jKG (List.replicate i (-1 : Int) ++ List.replicate (l.length - i) (0 : Int))),(2,.own jKG (List.replicate i (-1 : Int) ++ List.replicate (l.length - i) (0 : Int)))]) 40 (fun i => i ≤ l.length) (fun i => l.length - i) 0 (Nat.zero_le _) ?_ (fun i hi => ?_)
 ·all_goals exact vcA
 ·have hrl : (List.replicate i (-1 : Int) ++ List.replicate (l.length - i) (0 : Int)).length = l.length := by simp;omega
  repeat' ((conv => whnf);first|(with_reducible first|rfl|exact jKE|exact jKD)|exact True.intro|intro _|refine WA ?_ ?_|refine WF ?_|refine W1 rfl ?_ ?_|refine W2 rfl ?_ ?_|refine W3 rfl ?_ ?_|refine W4 ?_ ?_|refine W5 rfl ?_ ?_|refine W6 ?_ ?_|refine WN ?_|refine X1 (W1 rfl ?_ ?_)|refine X1 (W2 rfl ?_ ?_)|refine X2 (W7 rfl ?_ ?_)|refine X3 (W7 rfl ?_ ?_)|refine X4 (W7 rfl ?_ ?_)|refine X5 (W7 rfl ?_ ?_))
  all_goals (try (conv => whnf))
  all_goals (try first|exact obA|refine Ob.mk ?_)
  all_goals (try simp only [Int.toNat_natCast] at *)
  all_goals (try rw [hrl] at *)
  all_goals (try (have hlt : i < l.length := by have h := of_decide_eq_true ‹decide ((i : Int) < (l.length : Int)) = true›;omega))
  all_goals (try (have hin : i = l.length := by have h := of_decide_eq_false ‹decide ((i : Int) < (l.length : Int)) = false›;omega))
  ·refine Rnd.mk ⟨i + 1,by omega,by omega,?_⟩
   repeat' ((conv => whnf);first|(with_reducible first|rfl|exact jKE|exact jKD)|exact True.intro|intro _|refine WA ?_ ?_|refine WF ?_|refine W1 rfl ?_ ?_|refine W2 rfl ?_ ?_|refine W3 rfl ?_ ?_|refine W4 ?_ ?_|refine W5 rfl ?_ ?_|refine W6 ?_ ?_|refine WN ?_|refine X1 (W1 rfl ?_ ?_)|refine X1 (W2 rfl ?_ ?_)|refine X2 (W7 rfl ?_ ?_)|refine X3 (W7 rfl ?_ ?_)|refine X4 (W7 rfl ?_ ?_)|refine X5 (W7 rfl ?_ ?_))
   all_goals (try (conv => whnf))
   all_goals (try first|exact obA|refine Ob.mk ?_)
   all_goals (try rfl)
   all_goals (rw [jjT i l.length hlt])
  all_goals (subst hin;clear hrl)
  all_goals (try simp only [Nat.sub_self,List.replicate_zero,List.append_nil] at *)
  all_goals (try (have hpos : 0 < l.length := by have h := of_decide_eq_true ‹decide ((l.length : Int) > 0) = true›;omega))
  all_goals (try (have hE := jr7 (jKB l) l.length hpos))
  ·have hu := jeO (sI ((List.replicate l.length (-1 : Int)).set (0 : Int).toNat ((0 : Nat) : Int)))
   have hul : (sI ((List.replicate l.length (-1 : Int)).set (0 : Int).toNat ((0 : Nat) : Int))).length = l.length := by unfold sI;simp
   exact ⟨hpre,by simp,by simp,⟨by omega,by omega⟩,by omega,Nat.le_refl _⟩
  ·rw [← hE.1];rfl
  ·rw [← hE.2.1];rfl
  ·rw [← hE.2.2.1];rfl
  all_goals (have hz : l.length = 0 := by have h := of_decide_eq_false ‹decide ((l.length : Int) > 0) = false›;omega)
  all_goals (have e : fin l = st0 l.length := by unfold fin jj6 jn0;rw [if_pos hz];rfl)
  all_goals (rw [e])
  all_goals rfl
instance hList (l : List jKH) : Fn BB 14 [.agg [.rd jKA l]] (l.length ≤ 45) (.rd jKG (jOF (fin l).L)) := by
 refine Fn.intro (N := 13) [0,1,2,3] [] Tryz.call14 Tryz.func14 rfl rfl (by kernel_rfl) (fun hpre => ?_)
 repeat' ((conv => whnf);first|(with_reducible first|rfl|exact jKE|exact jKD)|exact True.intro|intro _|refine WA ?_ ?_|refine WF ?_|refine W1 rfl ?_ ?_|refine W2 rfl ?_ ?_|refine W3 rfl ?_ ?_|refine W4 ?_ ?_|refine W5 rfl ?_ ?_|refine W6 ?_ ?_|refine WN ?_|refine X1 (W1 rfl ?_ ?_)|refine X1 (W2 rfl ?_ ?_)|refine X2 (W7 rfl ?_ ?_)|refine X3 (W7 rfl ?_ ?_)|refine X4 (W7 rfl ?_ ?_)|refine X5 (W7 rfl ?_ ?_))
 all_goals (try (conv => whnf))
 all_goals (try first|exact obA|refine Ob.mk ?_)
 all_goals (first | exact hpre | rfl)
instance hMarks (l : List jKH) : Fn BB 156 [.agg [.rd jKA l]] (l.length ≤ 45) (.tup [.rd jKG (fin l).I,.rd jKG (fin l).O]) := by
 refine Fn.intro (N := 15) [0,1,2,3,5,6] [] Tryz.call156 Tryz.func156 rfl rfl (by kernel_rfl) (fun hpre => ?_)
 repeat' ((conv => whnf);first|(with_reducible first|rfl|exact jKE|exact jKD)|exact True.intro|intro _|refine WA ?_ ?_|refine WF ?_|refine W1 rfl ?_ ?_|refine W2 rfl ?_ ?_|refine W3 rfl ?_ ?_|refine W4 ?_ ?_|refine W5 rfl ?_ ?_|refine W6 ?_ ?_|refine WN ?_|refine X1 (W1 rfl ?_ ?_)|refine X1 (W2 rfl ?_ ?_)|refine X2 (W7 rfl ?_ ?_)|refine X3 (W7 rfl ?_ ?_)|refine X4 (W7 rfl ?_ ?_)|refine X5 (W7 rfl ?_ ?_))
 all_goals (try (conv => whnf))
 all_goals (try first|exact obA|refine Ob.mk ?_)
 all_goals (first | exact hpre | rfl)
end Go.Vc

namespace Go.Vc
open Go.Proofs
open Go.Vc.W
set_option maxRecDepth 10000
set_option maxHeartbeats 4000000
theorem u8b (c : UInt8) (k : Nat) (hk : k < 256) : ((c.toNat : Int) == (k : Int)) = (c == UInt8.ofNat k) := by
 rw [Bool.eq_iff_iff,beq_iff_eq,beq_iff_eq]
 constructor
 ·intro h;apply UInt8.toNat_inj.1;rw [UInt8.toNat_ofNat'];omega
 ·rintro rfl;rw [UInt8.toNat_ofNat'];omega
def jU3 (s p : List UInt8) : Bool := decide ((s.length : Int) ≥ (p.length : Int)) && s.take p.length == p
instance eHPl (s p : List UInt8) : Fn BB 257 [.str s,.str p] True (.bool (jU3 s p)) := by
 refine Fn.intro (N := 18) [0,1,4] [] Tryz.call257 Tryz.func257 rfl rfl (by kernel_rfl) (fun hpre => ?_)
 repeat' ((conv => whnf);first|(with_reducible first|rfl|exact jKE|exact jKD)|exact True.intro|intro _|refine WA ?_ ?_|refine WF ?_|refine W1 rfl ?_ ?_|refine W2 rfl ?_ ?_|refine W3 rfl ?_ ?_|refine W4 ?_ ?_|refine W5 rfl ?_ ?_|refine W6 ?_ ?_|refine WN ?_|refine X1 (W1 rfl ?_ ?_)|refine X1 (W2 rfl ?_ ?_)|refine X2 (W7 rfl ?_ ?_)|refine X3 (W7 rfl ?_ ?_)|refine X4 (W7 rfl ?_ ?_)|refine X5 (W7 rfl ?_ ?_))
 all_goals (try (conv => whnf))
 all_goals (try first|exact obA|refine Ob.mk ?_)
 all_goals (try simp only [ZA,ZB,ZC,ZD,ZE,ZF,ZG,ZH,ZI,ZJ,ZK,ZL,ZM,ZN,ZO,Int.toNat_natCast,UInt8.ofNat_toNat,cast_eq] at *)
 all_goals rfl
theorem jkH {s p : List UInt8} (h : jU3 s p = true) : p.length ≤ s.length := by
 unfold jU3 at h
 have := of_decide_eq_true (Bool.and_eq_true_iff.1 h).1
 omega
instance lCPl (s p : List UInt8) : Fn BB 210 [.str s,.str p] True (.tup [.str (bif jU3 s p then s.drop p.length else s),.bool (jU3 s p)]) := by
 refine Fn.intro (N := 15) [0,1,4,5,9] [] Tryz.call210 Tryz.func210 rfl rfl (by kernel_rfl) (fun hpre => ?_)
 have := fun h => jkH (s := s) (p := p) h
 cases hh : jU3 s p
 ·repeat' ((conv => whnf);first|(with_reducible first|rfl|exact jKE|exact jKD)|exact True.intro|intro _|refine WA ?_ ?_|refine WF ?_|refine W1 rfl ?_ ?_|refine W2 rfl ?_ ?_|refine W3 rfl ?_ ?_|refine W4 ?_ ?_|refine W5 rfl ?_ ?_|refine W6 ?_ ?_|refine WN ?_|refine X1 (W1 rfl ?_ ?_)|refine X1 (W2 rfl ?_ ?_)|refine X2 (W7 rfl ?_ ?_)|refine X3 (W7 rfl ?_ ?_)|refine X4 (W7 rfl ?_ ?_)|refine X5 (W7 rfl ?_ ?_))
  all_goals (try (conv => whnf))
  all_goals (try first|exact obA|refine Ob.mk ?_)
  all_goals (try (exfalso;have h : (!jU3 s p) = false := ‹_›;rw [hh] at h;cases h))
  all_goals (try rfl)
 ·have := this hh
  repeat' ((conv => whnf);first|(with_reducible first|rfl|exact jKE|exact jKD)|exact True.intro|intro _|refine WA ?_ ?_|refine WF ?_|refine W1 rfl ?_ ?_|refine W2 rfl ?_ ?_|refine W3 rfl ?_ ?_|refine W4 ?_ ?_|refine W5 rfl ?_ ?_|refine W6 ?_ ?_|refine WN ?_|refine X1 (W1 rfl ?_ ?_)|refine X1 (W2 rfl ?_ ?_)|refine X2 (W7 rfl ?_ ?_)|refine X3 (W7 rfl ?_ ?_)|refine X4 (W7 rfl ?_ ?_)|refine X5 (W7 rfl ?_ ?_))
  all_goals (try (conv => whnf))
  all_goals (try first|exact obA|refine Ob.mk ?_)
  all_goals (try (exfalso;have h : (!jU3 s p) = true := ‹_›;rw [hh] at h;cases h))
  all_goals (try rfl)
instance lCP (s p : List UInt8) : Fn BB 180 [.str s,.str p] True (.tup [.str (bif jU3 s p then s.drop p.length else s),.bool (jU3 s p)]) := by
 refine Fn.intro (N := 11) [0,1,4,5] [] Tryz.call180 Tryz.func180 rfl rfl (by kernel_rfl) (fun hpre => ?_)
 all_goals exact vcA
instance lcut (s p : List UInt8) : Fn BB 148 [.str s,.str p] True (.tup [.str (bif jU3 s p then s.drop p.length else []),.bool (jU3 s p)]) := by
 refine Fn.intro (N := 17) [0,1,4,5,6,7,15] [] Tryz.call148 Tryz.func148 rfl rfl (by kernel_rfl) (fun hpre => ?_)
 cases hh : jU3 s p
 ·repeat' ((conv => whnf);first|(with_reducible first|rfl|exact jKE|exact jKD)|exact True.intro|intro _|refine WA ?_ ?_|refine WF ?_|refine W1 rfl ?_ ?_|refine W2 rfl ?_ ?_|refine W3 rfl ?_ ?_|refine W4 ?_ ?_|refine W5 rfl ?_ ?_|refine W6 ?_ ?_|refine WN ?_|refine X1 (W1 rfl ?_ ?_)|refine X1 (W2 rfl ?_ ?_)|refine X2 (W7 rfl ?_ ?_)|refine X3 (W7 rfl ?_ ?_)|refine X4 (W7 rfl ?_ ?_)|refine X5 (W7 rfl ?_ ?_))
  all_goals (try (conv => whnf))
  all_goals (try first|exact obA|refine Ob.mk ?_)
  all_goals (try (exfalso;have h : (!jU3 s p) = false := ‹_›;rw [hh] at h;cases h))
  all_goals (try rfl)
 ·repeat' ((conv => whnf);first|(with_reducible first|rfl|exact jKE|exact jKD)|exact True.intro|intro _|refine WA ?_ ?_|refine WF ?_|refine W1 rfl ?_ ?_|refine W2 rfl ?_ ?_|refine W3 rfl ?_ ?_|refine W4 ?_ ?_|refine W5 rfl ?_ ?_|refine W6 ?_ ?_|refine WN ?_|refine X1 (W1 rfl ?_ ?_)|refine X1 (W2 rfl ?_ ?_)|refine X2 (W7 rfl ?_ ?_)|refine X3 (W7 rfl ?_ ?_)|refine X4 (W7 rfl ?_ ?_)|refine X5 (W7 rfl ?_ ?_))
  all_goals (try (conv => whnf))
  all_goals (try first|exact obA|refine Ob.mk ?_)
  all_goals (try (exfalso;have h : (!jU3 s p) = true := ‹_›;rw [hh] at h;cases h))
  all_goals (try rfl)
  all_goals (rw [hh];rfl)
def frL (s : List UInt8) : List UInt8 × Bool := (bif jU3 s [35] then s.drop 1 else [],jU3 s [35])
instance lFr (s : List UInt8) : Fn BB 103 [.str s] True (.tup [.str (frL s).1,.bool (frL s).2]) := by
 refine Fn.intro (N := 8) [0,2,3] [] Tryz.call103 Tryz.func103 rfl rfl (by kernel_rfl) (fun hpre => ?_)
 all_goals exact vcA
theorem jm8 (c : UInt8) (r : List UInt8) : jU3 (c :: r) [35] = (c == 35) := by
 unfold jU3
 have : decide (((c :: r).length : Int) ≥ (([35] : List UInt8).length : Int)) = true := by simp;omega
 rw [this]
 simp
instance lRFr (s : List UInt8) : Fn BB 105 [.str s] True (.tup [.str (frL s).1,.bool (frL s).2]) := by
  refine Fn.intro (N := 13) [0,2,3,10] [] Tryz.call105 Tryz.func105 rfl rfl (by kernel_rfl) (fun hpre => ?_)
  cases s with
  | nil =>
    repeat' ((conv => whnf);first|(with_reducible first|rfl|exact jKE|exact jKD)|exact True.intro|intro _|refine WA ?_ ?_|refine WF ?_|refine W1 rfl ?_ ?_|refine W2 rfl ?_ ?_|refine W3 rfl ?_ ?_|refine W4 ?_ ?_|refine W5 rfl ?_ ?_|refine W6 ?_ ?_|refine WN ?_|refine X1 (W1 rfl ?_ ?_)|refine X1 (W2 rfl ?_ ?_)|refine X2 (W7 rfl ?_ ?_)|refine X3 (W7 rfl ?_ ?_)|refine X4 (W7 rfl ?_ ?_)|refine X5 (W7 rfl ?_ ?_))
    all_goals (try (conv => whnf))
    all_goals (try first|exact obA|refine Ob.mk ?_)
    all_goals (first | (exfalso;have h : (([] : List UInt8) == []) = false := ‹_›;cases h) | (exfalso;have h : ((([] : List UInt8) == []) || _) = false := ‹_›;cases h) | rfl)
  | cons c r =>
    have hc : ((c.toNat : Int) == 35) = (c == 35) := u8b c 35 (by decide)
    have he := jm8 c r
    repeat' ((conv => whnf);first|(with_reducible first|rfl|exact jKE|exact jKD)|exact True.intro|intro _|refine WA ?_ ?_|refine WF ?_|refine W1 rfl ?_ ?_|refine W2 rfl ?_ ?_|refine W3 rfl ?_ ?_|refine W4 ?_ ?_|refine W5 rfl ?_ ?_|refine W6 ?_ ?_|refine WN ?_|refine X1 (W1 rfl ?_ ?_)|refine X1 (W2 rfl ?_ ?_)|refine X2 (W7 rfl ?_ ?_)|refine X3 (W7 rfl ?_ ?_)|refine X4 (W7 rfl ?_ ?_)|refine X5 (W7 rfl ?_ ?_))
    all_goals (try (conv => whnf))
    all_goals (try first|exact obA|refine Ob.mk ?_)
    all_goals (try (constructor <;> simp <;> omega))
    all_goals (first
      | (have h := ‹(c :: r == [] || (((c :: r).getD (Int.toNat 0) 0).toNat : Int) != 35) = true›
         have h2 : (c == 35) = false := by
           have h3 : (((c :: r : List UInt8) == []) || !((c.toNat : Int) == 35)) = true := h
           rw [hc] at h3
           simpa using h3
         unfold frL
         rw [he,h2]
         try rfl)
      | (have h := ‹(c :: r == [] || (((c :: r).getD (Int.toNat 0) 0).toNat : Int) != 35) = false›
         have h2 : (c == 35) = true := by
           have h3 : (((c :: r : List UInt8) == []) || !((c.toNat : Int) == 35)) = false := h
           rw [hc] at h3
           simpa using h3
         unfold frL
         rw [he,h2]
         try rfl))
abbrev jYV : List UInt8 := [102,111,114]
abbrev jdI : List UInt8 := [108,97,98,101,108]
abbrev jcJ : List UInt8 := [108,105,115,116]
abbrev jbC : List UInt8 := [102,111,114,109]
abbrev jgA : List UInt8 := [97,114,105,97,45,97,99,116,105,118,101,100,101,115,99,101,110,100,97,110,116]
abbrev jjE : List UInt8 := [104,101,97,100,101,114,115]
abbrev jX4 : List UInt8 := [97,114,105,97,45,108,97,98,101,108,108,101,100,98,121]
abbrev jYD : List UInt8 := [97,114,105,97,45,100,101,115,99,114,105,98,101,100,98,121]
abbrev jUS : List UInt8 := [97,114,105,97,45,99,111,110,116,114,111,108,115]
abbrev jYJ : List UInt8 := [97,114,105,97,45,111,119,110,115]
abbrev jlT : List UInt8 := [117,115,101,109,97,112]
abbrev jhT : List UInt8 := [104,114,101,102]
def jNT (k s : Int) (nn nm : List UInt8) : Int :=
 if jP6 k s nn nm = false then 0 else if nm = jYV then (if nn = jdI then 1 else 2)
 else if nm = jcJ ∨ nm = jbC ∨ nm = jgA then 1
 else if nm = jjE ∨ nm = jX4 ∨ nm = jYD ∨ nm = jUS ∨ nm = jYJ then 2
 else if nm = jlT ∨ nm = jhT then 3 else 0
theorem jcZ {k s : Int} {nn nm : List UInt8} (h : jP6 k s nn nm = false) : jNT k s nn nm = 0 := by rw [jNT,if_pos h]
theorem jgJ {k s : Int} {nn nm : List UInt8} (h : ¬ k = 1) : jNT k s nn nm = 0 := jcZ (jdS h)
theorem jc4 {k s : Int} {nn nm : List UInt8} (h : jP6 k s nn nm = true) : jNT k s nn nm = (if nm = jYV then (if nn = jdI then 1 else 2)
 else if nm = jcJ ∨ nm = jbC ∨ nm = jgA then 1
 else if nm = jjE ∨ nm = jX4 ∨ nm = jYD ∨ nm = jUS ∨ nm = jYJ then 2
 else if nm = jlT ∨ nm = jhT then 3 else 0) := by rw [jNT,if_neg (by rw [h];decide)]
theorem jkJ {k s : Int} {nn : List UInt8} (h : jP6 k s nn jYV = true) : s = 0 := by
 by_cases hk : k = 1
 ·subst hk
  rw [jhM (o := [108,97,98,101,108,32,111,117,116,112,117,116]) rfl] at h
  exact beq_iff_eq.1 (Bool.and_eq_true_iff.1 h).1
 ·rw [jdS hk] at h;cases h
instance rKind (k s : Int) (nn : List UInt8) (at_ : List jKP.T) (dt : List UInt8) (up : Int) (kids : List Int) (nm : List UInt8) :
    Fn BB 46 [.agg [.int .i64 k,.int .i64 s,.str nn,.rd jKP at_,.str dt,.int .i64 up,.rd jKG kids],.str nm] (nn.length ≤ 1000) (.int .i64 (jNT k s nn nm)) := by
  refine Fn.intro (N := 33) [0,1,2,4,13,14,15,19,20,24,30] [] Tryz.call46 Tryz.func46 rfl rfl (by kernel_rfl) (fun hpre => ?_)
  repeat' ((conv => whnf);first|(with_reducible first|rfl|exact jKE|exact jKD)|exact True.intro|intro _|refine WA ?_ ?_|refine WF ?_|refine W1 rfl ?_ ?_|refine W2 rfl ?_ ?_|refine W3 rfl ?_ ?_|refine W4 ?_ ?_|refine W5 rfl ?_ ?_|refine W6 ?_ ?_|refine WN ?_|refine X1 (W1 rfl ?_ ?_)|refine X1 (W2 rfl ?_ ?_)|refine X2 (W7 rfl ?_ ?_)|refine X3 (W7 rfl ?_ ?_)|refine X4 (W7 rfl ?_ ?_)|refine X5 (W7 rfl ?_ ?_))
  all_goals (try (conv => whnf))
  all_goals (try first|exact obA|refine Ob.mk ?_)
  all_goals (try simp only [ZA,ZB,ZC,ZD,ZE,ZF,ZG,ZH,ZI,ZJ,ZK,ZL,ZM,ZN,ZO,Bool.and_eq_false_iff,Bool.or_eq_false_iff,ge_iff_le,gt_iff_lt,Int.toNat_natCast,UInt8.ofNat_toNat,cast_eq] at *)
  all_goals (try contradiction)
  all_goals (try (have h : ¬k = 1 ∨ jP6 k s nn nm = false := by assumption
                  exact (h.elim jgJ jcZ).symm))
  all_goals (try (have hf : k = 1 ∧ jP6 k s nn nm = true := by assumption
                  rw [jc4 hf.2];simp [*];done))
instance rIs (k s : Int) (nn : List UInt8) (at_ : List jKP.T) (dt : List UInt8) (up : Int) (kids : List Int) (nm : List UInt8) :
  Fn BB 101 [.agg [.int .i64 k,.int .i64 s,.str nn,.rd jKP at_,.str dt,.int .i64 up,.rd jKG kids],.str nm] True (.bool (k == 1 && s == 0 && nn == nm)) := by
 refine Fn.intro (N := 19) [0,1,2,4] [] Tryz.call101 Tryz.func101 rfl rfl (by kernel_rfl) (fun hpre => ?_)
 repeat' ((conv => whnf);first|(with_reducible first|rfl|exact jKE|exact jKD)|exact True.intro|intro _|refine WA ?_ ?_|refine WF ?_|refine W1 rfl ?_ ?_|refine W2 rfl ?_ ?_|refine W3 rfl ?_ ?_|refine W4 ?_ ?_|refine W5 rfl ?_ ?_|refine W6 ?_ ?_|refine WN ?_|refine X1 (W1 rfl ?_ ?_)|refine X1 (W2 rfl ?_ ?_)|refine X2 (W7 rfl ?_ ?_)|refine X3 (W7 rfl ?_ ?_)|refine X4 (W7 rfl ?_ ?_)|refine X5 (W7 rfl ?_ ?_))
 all_goals (try (conv => whnf))
 all_goals (try first|exact obA|refine Ob.mk ?_)
 all_goals (try rfl)
 all_goals trace_state
abbrev jmV : List UInt8 := [97,114,105,97,45,108,97,98,101,108,108,101,100,98,121,32,97,114,105,97,45,100,101,115,99,114,105,98,101,100,98,121,32,97,114,105,97,45,99,111,110,116,114,111,108,115,32,97,114,105,97,45,111,119,110,115]
theorem jl6 (nm : List UInt8) : (spl jmV).contains nm = true ↔ (nm = jX4 ∨ nm = jYD ∨ nm = jUS ∨ nm = jYJ) := by
 rw [show spl jmV = [jX4,jYD,jUS,jYJ] from by decide +kernel]
 simp
instance rRKind (k s : Int) (nn : List UInt8) (at_ : List jKP.T) (dt : List UInt8) (up : Int) (kids : List Int) (nm : List UInt8) :
    Fn BB 47 [.agg [.int .i64 k,.int .i64 s,.str nn,.rd jKP at_,.str dt,.int .i64 up,.rd jKG kids],.str nm] (nn.length ≤ 1000) (.int .i64 (jNT k s nn nm)) := by
  refine Fn.intro (N := 48) [0,1,2,4,13,31,41,47] [] Tryz.call47 Tryz.func47 rfl rfl (by kernel_rfl) (fun hpre => ?_)
  have hma : (spl jmV).contains nm = decide (nm = jX4 ∨ nm = jYD ∨ nm = jUS ∨ nm = jYJ) := by
    rw [Bool.eq_iff_iff,jl6,decide_eq_true_eq]
  repeat' ((conv => whnf);first|(with_reducible first|rfl|exact jKE|exact jKD)|exact True.intro|intro _|refine WA ?_ ?_|refine WF ?_|refine W1 rfl ?_ ?_|refine W2 rfl ?_ ?_|refine W3 rfl ?_ ?_|refine W4 ?_ ?_|refine W5 rfl ?_ ?_|refine W6 ?_ ?_|refine WN ?_|refine X1 (W1 rfl ?_ ?_)|refine X1 (W2 rfl ?_ ?_)|refine X2 (W7 rfl ?_ ?_)|refine X3 (W7 rfl ?_ ?_)|refine X4 (W7 rfl ?_ ?_)|refine X5 (W7 rfl ?_ ?_))
  all_goals (try (conv => whnf))
  all_goals (try first|exact obA|refine Ob.mk ?_)
  all_goals (try simp only [ZA,ZB,ZC,ZD,ZE,ZF,ZG,ZH,ZI,ZJ,ZK,ZL,ZM,ZN,ZO,Bool.and_eq_false_iff,Bool.or_eq_false_iff,ge_iff_le,gt_iff_lt,Int.toNat_natCast,UInt8.ofNat_toNat,cast_eq] at *)
  all_goals (try contradiction)
  all_goals (try (have h : ¬k = 1 ∨ jP6 k s nn nm = false := by assumption
                  exact (h.elim jgJ jcZ).symm))
  all_goals (
    obtain ⟨hk,hf⟩ : k = 1 ∧ jP6 k s nn nm = true := by assumption
    subst hk
    have hs : nm = jYV → s = 0 := fun e => by subst e;exact jkJ hf
    rw [jc4 hf]
    clear hma hf
    try simp only [← Bool.not_eq_true,jl6] at *
    by_cases h1 : nm = jYV
    · have h2 := hs h1
      subst h1
      simp_all
    · (try simp_all) <;> (try (intro p1 p2 p3;rcases (by assumption : (nm = jcJ ∨ nm = jbC) ∨ nm = jgA) with (h | h) | h <;> contradiction)))
  all_goals trace_state
def jK1 (kind : Int) (v : List UInt8) : List (List UInt8) :=
 if kind = 2 then spl v else if kind = 1 then (if v = [] then [] else [v]) else if kind = 3 then (if (frL v).1 = [] then [] else [(frL v).1]) else []
theorem jq8 {v : List UInt8} (h : (frL v).2 = false) : (frL v).1 = [] := by
 unfold frL at h ⊢
 show (bif jU3 v [35] then _ else _) = _
 rw [show jU3 v [35] = false from h];rfl
instance rWords (kind : Int) (v : List UInt8) : Fn BB 49 [.int .i64 kind,.str v] (v.length ≤ 100000) (.rd .str (jK1 kind v)) := by
 refine Fn.intro (N := 23) [0,1,4,5,6,8,12,20] [] Tryz.call49 Tryz.func49 rfl rfl (by kernel_rfl) (fun hpre => ?_)
 repeat' ((conv => whnf);first|(with_reducible first|rfl|exact jKE|exact jKD)|exact True.intro|intro _|refine WA ?_ ?_|refine WF ?_|refine W1 rfl ?_ ?_|refine W2 rfl ?_ ?_|refine W3 rfl ?_ ?_|refine W4 ?_ ?_|refine W5 rfl ?_ ?_|refine W6 ?_ ?_|refine WN ?_|refine X1 (W1 rfl ?_ ?_)|refine X1 (W2 rfl ?_ ?_)|refine X2 (W7 rfl ?_ ?_)|refine X3 (W7 rfl ?_ ?_)|refine X4 (W7 rfl ?_ ?_)|refine X5 (W7 rfl ?_ ?_))
 all_goals (try (conv => whnf))
 all_goals (try first|exact obA|refine Ob.mk ?_)
 all_goals (try simp only [ZA,ZB,ZC,ZD,ZE,ZF,ZG,ZH,ZI,ZJ,ZK,ZL,ZM,ZN,ZO,Bool.and_eq_false_iff,Bool.or_eq_false_iff,ge_iff_le,gt_iff_lt,Int.toNat_natCast,UInt8.ofNat_toNat,cast_eq] at *)
 all_goals (first | (simp [jK1, *];done) | (show SV.rd Ty.str _ = _;simp [jK1, *];done) | trace_state)
instance rRWords (kind : Int) (v : List UInt8) : Fn BB 50 [.int .i64 kind,.str v] (v.length ≤ 100000) (.rd .str (jK1 kind v)) := by
 refine Fn.intro (N := 35) [0,1,4,5,6,12,16,32] [] Tryz.call50 Tryz.func50 rfl rfl (by kernel_rfl) (fun hpre => ?_)
 repeat' ((conv => whnf);first|(with_reducible first|rfl|exact jKE|exact jKD)|exact True.intro|intro _|refine WA ?_ ?_|refine WF ?_|refine W1 rfl ?_ ?_|refine W2 rfl ?_ ?_|refine W3 rfl ?_ ?_|refine W4 ?_ ?_|refine W5 rfl ?_ ?_|refine W6 ?_ ?_|refine WN ?_|refine X1 (W1 rfl ?_ ?_)|refine X1 (W2 rfl ?_ ?_)|refine X2 (W7 rfl ?_ ?_)|refine X3 (W7 rfl ?_ ?_)|refine X4 (W7 rfl ?_ ?_)|refine X5 (W7 rfl ?_ ?_))
 all_goals (try (conv => whnf))
 all_goals (try first|exact obA|refine Ob.mk ?_)
 all_goals (try simp only [ZA,ZB,ZC,ZD,ZE,ZF,ZG,ZH,ZI,ZJ,ZK,ZL,ZM,ZN,ZO,Bool.and_eq_false_iff,Bool.or_eq_false_iff,ge_iff_le,gt_iff_lt,Int.toNat_natCast,UInt8.ofNat_toNat,cast_eq] at *)
 all_goals (try (
  have h3 : kind = 3 → (frL v).1 = [] := fun e => by
   rcases (by assumption : (¬kind = 3 ∨ (frL v).snd = false) ∨ (frL v).fst = []) with (h | h) | h
   ·exact absurd e h
   ·exact jq8 h
   ·exact h
  have h1 : kind = 1 → v = [] := fun e => (by assumption : ¬kind = 1 ∨ v = []).resolve_left (fun h => h e)
  unfold jK1
  rw [if_neg (by assumption)]
  split
  ·rw [if_pos (h1 (by assumption))]
  ·split
   ·rw [if_pos (h3 (by assumption))]
   ·rfl))
 all_goals (first | (simp [jK1, *];done) | (show SV.rd Ty.str _ = _;simp [jK1, *];done) | trace_state)
end Go.Vc

namespace Go.Vc
open Go.Proofs
open Go.Vc.W
set_option maxRecDepth 10000
set_option maxHeartbeats 8000000
section
attribute [-instance] Go.Vc.W.f38 Go.Vc.W.f33 Go.Vc.W.f35 rWords rRWords
instance oFF (s : List UInt8) : FnM BB 146 [.str s,.fn 147 []] [] (s.length ≤ 100000) (.own 0) [(0,.own .str (spl s))] := by
 refine FnM.intro (N := 65) [0,1,4,5,6,7,8,9,10,11,14,15,16,21,23,33,36,47,48,49,50] [] 0 Tryz.call146 Tryz.func146 rfl rfl (by kernel_rfl) (fun hpre => ?_)
 repeat' ((conv => whnf);first|(with_reducible first|rfl|exact jKE|exact jKD)|exact True.intro|intro _|refine WA ?_ ?_|refine WF ?_|refine W1 rfl ?_ ?_|refine W2 rfl ?_ ?_|refine W3 rfl ?_ ?_|refine W4 ?_ ?_|refine W5 rfl ?_ ?_|refine W6 ?_ ?_|refine WN ?_|refine X1 (W1 rfl ?_ ?_)|refine X1 (W2 rfl ?_ ?_)|refine X2 (W7 rfl ?_ ?_)|refine X3 (W7 rfl ?_ ?_)|refine X4 (W7 rfl ?_ ?_)|refine X5 (W7 rfl ?_ ?_))
 all_goals (try (conv => whnf))
 all_goals (try first|exact obA|refine Ob.mk ?_)
 repeat' ((conv => whnf);first|(with_reducible first|rfl|exact jKE|exact jKD)|exact True.intro|intro _|refine WA ?_ ?_|refine WF ?_|refine W1 rfl ?_ ?_|refine W2 rfl ?_ ?_|refine W3 rfl ?_ ?_|refine W4 ?_ ?_|refine W5 rfl ?_ ?_|refine W6 ?_ ?_|refine WN ?_|refine X1 (W1 rfl ?_ ?_)|refine X1 (W2 rfl ?_ ?_)|refine X2 (W7 rfl ?_ ?_)|refine X3 (W7 rfl ?_ ?_)|refine X4 (W7 rfl ?_ ?_)|refine X5 (W7 rfl ?_ ?_))
 all_goals (try (conv => whnf))
 refine LoopStop.mk (α := FS) (fun a => [(5,.own 0),(6,.int .i64 a.start)]) (fun a => [(0,.own jxU a.spans),(1,.iter s a.pos)]) 2 (FSok s) (fun a => s.length - a.pos) ⟨0,[], -1⟩ ⟨by simp,by simp [jNW],by simp,by simp;omega,by simp [jNW]⟩ ?_ (fun a ha => ?_)
 ·repeat' ((conv => whnf);first|(with_reducible first|rfl|exact jKE|exact jKD)|exact True.intro|intro _|refine WA ?_ ?_|refine WF ?_|refine W1 rfl ?_ ?_|refine W2 rfl ?_ ?_|refine W3 rfl ?_ ?_|refine W4 ?_ ?_|refine W5 rfl ?_ ?_|refine W6 ?_ ?_|refine WN ?_|refine X1 (W1 rfl ?_ ?_)|refine X1 (W2 rfl ?_ ?_)|refine X2 (W7 rfl ?_ ?_)|refine X3 (W7 rfl ?_ ?_)|refine X4 (W7 rfl ?_ ?_)|refine X5 (W7 rfl ?_ ?_))
  all_goals (try (conv => whnf))
  all_goals (try rfl)
  all_goals trace_state
 ·have hl := ha.len
  have h1 := ha.hp
  have h2 := ha.hb
  repeat' ((conv => whnf);first|(with_reducible first|rfl|exact jKE|exact jKD)|exact True.intro|intro _|refine WA ?_ ?_|refine WF ?_|refine W1 rfl ?_ ?_|refine W2 rfl ?_ ?_|refine W3 rfl ?_ ?_|refine W4 ?_ ?_|refine W5 rfl ?_ ?_|refine W6 ?_ ?_|refine WN ?_|refine X1 (W1 rfl ?_ ?_)|refine X1 (W2 rfl ?_ ?_)|refine X2 (W7 rfl ?_ ?_)|refine X3 (W7 rfl ?_ ?_)|refine X4 (W7 rfl ?_ ?_)|refine X5 (W7 rfl ?_ ?_))
  all_goals (try (conv => whnf))
  all_goals (try first|exact obA|refine Ob.mk ?_)
  all_goals (try simp only [ZA,ZB,ZC,ZD,ZE,ZF,ZG,ZH,ZI,ZJ,ZK,ZL,ZM,ZN,ZO,Int.toNat_natCast,UInt8.ofNat_toNat,cast_eq] at *)
  ·skip
   repeat' ((conv => whnf);first|(with_reducible first|rfl|exact jKE|exact jKD)|exact True.intro|intro _|refine WA ?_ ?_|refine WF ?_|refine W1 rfl ?_ ?_|refine W2 rfl ?_ ?_|refine W3 rfl ?_ ?_|refine W4 ?_ ?_|refine W5 rfl ?_ ?_|refine W6 ?_ ?_|refine WN ?_|refine X1 (W1 rfl ?_ ?_)|refine X1 (W2 rfl ?_ ?_)|refine X2 (W7 rfl ?_ ?_)|refine X3 (W7 rfl ?_ ?_)|refine X4 (W7 rfl ?_ ?_)|refine X5 (W7 rfl ?_ ?_))
   all_goals (try (conv => whnf))
   all_goals (try first|exact obA|refine Ob.mk ?_)
   refine Rnd.mk ⟨⟨a.pos + (jON s a.pos).2,a.spans ++ [(a.start,(a.pos:Int))], -a.start - 1⟩,?_,?_,?_⟩
   ·exact jlY ha ‹_› ‹_› (by omega)
   ·have := (jM3 s a.pos ‹_›).1;simp;omega
   ·repeat' ((conv => whnf);first|(with_reducible first|rfl|exact jKE|exact jKD)|exact True.intro|intro _|refine WA ?_ ?_|refine WF ?_|refine W1 rfl ?_ ?_|refine W2 rfl ?_ ?_|refine W3 rfl ?_ ?_|refine W4 ?_ ?_|refine W5 rfl ?_ ?_|refine W6 ?_ ?_|refine WN ?_|refine X1 (W1 rfl ?_ ?_)|refine X1 (W2 rfl ?_ ?_)|refine X2 (W7 rfl ?_ ?_)|refine X3 (W7 rfl ?_ ?_)|refine X4 (W7 rfl ?_ ?_)|refine X5 (W7 rfl ?_ ?_))
    all_goals (try (conv => whnf))
    all_goals (try first|exact obA|refine Ob.mk ?_)
    all_goals (first | (rw [jc8 _ (by omega)];done) | skip)
    all_goals trace_state
  ·have := (jM3 s a.pos ‹_›).1
   refine Rnd.mk ⟨⟨a.pos + (jON s a.pos).2,a.spans,a.start⟩,?_,?_,?_⟩
   ·exact jmD ha ‹_› ‹_› (by omega)
   ·simp;omega
   ·repeat' ((conv => whnf);first|(with_reducible first|rfl|exact jKE|exact jKD)|exact True.intro|intro _|refine WA ?_ ?_|refine WF ?_|refine W1 rfl ?_ ?_|refine W2 rfl ?_ ?_|refine W3 rfl ?_ ?_|refine W4 ?_ ?_|refine W5 rfl ?_ ?_|refine W6 ?_ ?_|refine WN ?_|refine X1 (W1 rfl ?_ ?_)|refine X1 (W2 rfl ?_ ?_)|refine X2 (W7 rfl ?_ ?_)|refine X3 (W7 rfl ?_ ?_)|refine X4 (W7 rfl ?_ ?_)|refine X5 (W7 rfl ?_ ?_))
    all_goals (try (conv => whnf))
    all_goals (try first|exact obA|refine Ob.mk ?_)
    all_goals trace_state
  ·have := (jM3 s a.pos ‹_›).1
   refine Rnd.mk ⟨⟨a.pos + (jON s a.pos).2,a.spans,a.pos⟩,?_,?_,?_⟩
   ·exact jmK ha ‹_› ‹_› (by omega)
   ·simp;omega
   ·repeat' ((conv => whnf);first|(with_reducible first|rfl|exact jKE|exact jKD)|exact True.intro|intro _|refine WA ?_ ?_|refine WF ?_|refine W1 rfl ?_ ?_|refine W2 rfl ?_ ?_|refine W3 rfl ?_ ?_|refine W4 ?_ ?_|refine W5 rfl ?_ ?_|refine W6 ?_ ?_|refine WN ?_|refine X1 (W1 rfl ?_ ?_)|refine X1 (W2 rfl ?_ ?_)|refine X2 (W7 rfl ?_ ?_)|refine X3 (W7 rfl ?_ ?_)|refine X4 (W7 rfl ?_ ?_)|refine X5 (W7 rfl ?_ ?_))
    all_goals (try (conv => whnf))
    all_goals (try first|exact obA|refine Ob.mk ?_)
    all_goals trace_state
  ·have := (jM3 s a.pos ‹_›).1
   refine Rnd.mk ⟨⟨a.pos + (jON s a.pos).2,a.spans,a.start⟩,?_,?_,?_⟩
   ·exact jlX ha ‹_› ‹_› (by omega)
   ·simp;omega
   ·repeat' ((conv => whnf);first|(with_reducible first|rfl|exact jKE|exact jKD)|exact True.intro|intro _|refine WA ?_ ?_|refine WF ?_|refine W1 rfl ?_ ?_|refine W2 rfl ?_ ?_|refine W3 rfl ?_ ?_|refine W4 ?_ ?_|refine W5 rfl ?_ ?_|refine W6 ?_ ?_|refine WN ?_|refine X1 (W1 rfl ?_ ?_)|refine X1 (W2 rfl ?_ ?_)|refine X2 (W7 rfl ?_ ?_)|refine X3 (W7 rfl ?_ ?_)|refine X4 (W7 rfl ?_ ?_)|refine X5 (W7 rfl ?_ ?_))
    all_goals (try (conv => whnf))
    all_goals (try first|exact obA|refine Ob.mk ?_)
    all_goals trace_state
  ·skip
   have hh := jg6 ha ‹_› (by omega)
   have hlen : (a.spans ++ [(a.start,(s.length:Int))]).length ≤ s.length + 1 := by simp;omega
   revert hh hlen
   generalize a.spans ++ [(a.start,(s.length:Int))] = sp
   intro hh hlen
   repeat' ((conv => whnf);first|(with_reducible first|rfl|exact jKE|exact jKD)|exact True.intro|intro _|refine WA ?_ ?_|refine WF ?_|refine W1 rfl ?_ ?_|refine W2 rfl ?_ ?_|refine W3 rfl ?_ ?_|refine W4 ?_ ?_|refine W5 rfl ?_ ?_|refine W6 ?_ ?_|refine WN ?_|refine X1 (W1 rfl ?_ ?_)|refine X1 (W2 rfl ?_ ?_)|refine X2 (W7 rfl ?_ ?_)|refine X3 (W7 rfl ?_ ?_)|refine X4 (W7 rfl ?_ ?_)|refine X5 (W7 rfl ?_ ?_))
   all_goals (try (conv => whnf))
   all_goals (try first|exact obA|refine Ob.mk ?_)
   repeat' ((conv => whnf);first|(with_reducible first|rfl|exact jKE|exact jKD)|exact True.intro|intro _|refine WA ?_ ?_|refine WF ?_|refine W1 rfl ?_ ?_|refine W2 rfl ?_ ?_|refine W3 rfl ?_ ?_|refine W4 ?_ ?_|refine W5 rfl ?_ ?_|refine W6 ?_ ?_|refine WN ?_|refine X1 (W1 rfl ?_ ?_)|refine X1 (W2 rfl ?_ ?_)|refine X2 (W7 rfl ?_ ?_)|refine X3 (W7 rfl ?_ ?_)|refine X4 (W7 rfl ?_ ?_)|refine X5 (W7 rfl ?_ ?_))
   all_goals (try (conv => whnf))
   refine LoopStop.mk (α := Nat) (fun i => [(49,.int .i64 i)]) (fun i => [(3,.own .str (fin2 s sp i))]) 20 (fun i => i ≤ sp.length) (fun i => sp.length - i) 0 (by simp) ?_ (fun i hi => ?_)
   ·repeat' ((conv => whnf);first|(with_reducible first|rfl|exact jKE|exact jKD)|exact True.intro|intro _|refine WA ?_ ?_|refine WF ?_|refine W1 rfl ?_ ?_|refine W2 rfl ?_ ?_|refine W3 rfl ?_ ?_|refine W4 ?_ ?_|refine W5 rfl ?_ ?_|refine W6 ?_ ?_|refine WN ?_|refine X1 (W1 rfl ?_ ?_)|refine X1 (W2 rfl ?_ ?_)|refine X2 (W7 rfl ?_ ?_)|refine X3 (W7 rfl ?_ ?_)|refine X4 (W7 rfl ?_ ?_)|refine X5 (W7 rfl ?_ ?_))
    all_goals (try (conv => whnf))
    all_goals (try rfl)
    all_goals trace_state
   ·repeat' ((conv => whnf);first|(with_reducible first|rfl|exact jKE|exact jKD)|exact True.intro|intro _|refine WA ?_ ?_|refine WF ?_|refine W1 rfl ?_ ?_|refine W2 rfl ?_ ?_|refine W3 rfl ?_ ?_|refine W4 ?_ ?_|refine W5 rfl ?_ ?_|refine W6 ?_ ?_|refine WN ?_|refine X1 (W1 rfl ?_ ?_)|refine X1 (W2 rfl ?_ ?_)|refine X2 (W7 rfl ?_ ?_)|refine X3 (W7 rfl ?_ ?_)|refine X4 (W7 rfl ?_ ?_)|refine X5 (W7 rfl ?_ ?_))
    all_goals (try (conv => whnf))
    all_goals (try first|exact obA|refine Ob.mk ?_)
    all_goals (try simp only [ZA,ZB,ZC,ZD,ZE,ZF,ZG,ZH,ZI,ZJ,ZK,ZL,ZM,ZN,ZO,Int.toNat_natCast,UInt8.ofNat_toNat,cast_eq] at *)
    ·exact hh.2 _ (jRG (by omega))
    ·rw [jNQ s sp i hi];omega
    ·rw [jNQ s sp i hi];omega
    ·skip
     have e := jTP s sp i (by omega)
     repeat' ((conv => whnf);first|(with_reducible first|rfl|exact jKE|exact jKD)|exact True.intro|intro _|refine WA ?_ ?_|refine WF ?_|refine W1 rfl ?_ ?_|refine W2 rfl ?_ ?_|refine W3 rfl ?_ ?_|refine W4 ?_ ?_|refine W5 rfl ?_ ?_|refine W6 ?_ ?_|refine WN ?_|refine X1 (W1 rfl ?_ ?_)|refine X1 (W2 rfl ?_ ?_)|refine X2 (W7 rfl ?_ ?_)|refine X3 (W7 rfl ?_ ?_)|refine X4 (W7 rfl ?_ ?_)|refine X5 (W7 rfl ?_ ?_))
     all_goals (try (conv => whnf))
     all_goals (try first|exact obA|refine Ob.mk ?_)
     refine Rnd.mk ⟨i + 1,?_,?_,?_⟩
     ·omega
     ·omega
     ·repeat' ((conv => whnf);first|(with_reducible first|rfl|exact jKE|exact jKD)|exact True.intro|intro _|refine WA ?_ ?_|refine WF ?_|refine W1 rfl ?_ ?_|refine W2 rfl ?_ ?_|refine W3 rfl ?_ ?_|refine W4 ?_ ?_|refine W5 rfl ?_ ?_|refine W6 ?_ ?_|refine WN ?_|refine X1 (W1 rfl ?_ ?_)|refine X1 (W2 rfl ?_ ?_)|refine X2 (W7 rfl ?_ ?_)|refine X3 (W7 rfl ?_ ?_)|refine X4 (W7 rfl ?_ ?_)|refine X5 (W7 rfl ?_ ?_))
      all_goals (try (conv => whnf))
      all_goals (try first|exact obA|refine Ob.mk ?_)
      all_goals (rw [← e];rfl)
    ·rw [jTJ s sp i (by omega),hh.1]
  ·have hh := jiS ha ‹_› (by omega)
   have hlen : a.spans.length ≤ s.length + 1 := by omega
   revert hh hlen
   generalize a.spans = sp
   intro hh hlen
   repeat' ((conv => whnf);first|(with_reducible first|rfl|exact jKE|exact jKD)|exact True.intro|intro _|refine WA ?_ ?_|refine WF ?_|refine W1 rfl ?_ ?_|refine W2 rfl ?_ ?_|refine W3 rfl ?_ ?_|refine W4 ?_ ?_|refine W5 rfl ?_ ?_|refine W6 ?_ ?_|refine WN ?_|refine X1 (W1 rfl ?_ ?_)|refine X1 (W2 rfl ?_ ?_)|refine X2 (W7 rfl ?_ ?_)|refine X3 (W7 rfl ?_ ?_)|refine X4 (W7 rfl ?_ ?_)|refine X5 (W7 rfl ?_ ?_))
   all_goals (try (conv => whnf))
   refine LoopStop.mk (α := Nat) (fun i => [(49,.int .i64 i)]) (fun i => [(2,.own .str (fin2 s sp i))]) 3 (fun i => i ≤ sp.length) (fun i => sp.length - i) 0 (by simp) ?_ (fun i hi => ?_)
   ·repeat' ((conv => whnf);first|(with_reducible first|rfl|exact jKE|exact jKD)|exact True.intro|intro _|refine WA ?_ ?_|refine WF ?_|refine W1 rfl ?_ ?_|refine W2 rfl ?_ ?_|refine W3 rfl ?_ ?_|refine W4 ?_ ?_|refine W5 rfl ?_ ?_|refine W6 ?_ ?_|refine WN ?_|refine X1 (W1 rfl ?_ ?_)|refine X1 (W2 rfl ?_ ?_)|refine X2 (W7 rfl ?_ ?_)|refine X3 (W7 rfl ?_ ?_)|refine X4 (W7 rfl ?_ ?_)|refine X5 (W7 rfl ?_ ?_))
    all_goals (try (conv => whnf))
    all_goals (try rfl)
    all_goals trace_state
   ·repeat' ((conv => whnf);first|(with_reducible first|rfl|exact jKE|exact jKD)|exact True.intro|intro _|refine WA ?_ ?_|refine WF ?_|refine W1 rfl ?_ ?_|refine W2 rfl ?_ ?_|refine W3 rfl ?_ ?_|refine W4 ?_ ?_|refine W5 rfl ?_ ?_|refine W6 ?_ ?_|refine WN ?_|refine X1 (W1 rfl ?_ ?_)|refine X1 (W2 rfl ?_ ?_)|refine X2 (W7 rfl ?_ ?_)|refine X3 (W7 rfl ?_ ?_)|refine X4 (W7 rfl ?_ ?_)|refine X5 (W7 rfl ?_ ?_))
    all_goals (try (conv => whnf))
    all_goals (try first|exact obA|refine Ob.mk ?_)
    all_goals (try simp only [ZA,ZB,ZC,ZD,ZE,ZF,ZG,ZH,ZI,ZJ,ZK,ZL,ZM,ZN,ZO,Int.toNat_natCast,UInt8.ofNat_toNat,cast_eq] at *)
    ·exact hh.2 _ (jRG (by omega))
    ·rw [jNQ s sp i hi];omega
    ·rw [jNQ s sp i hi];omega
    ·skip
     have e := jTP s sp i (by omega)
     repeat' ((conv => whnf);first|(with_reducible first|rfl|exact jKE|exact jKD)|exact True.intro|intro _|refine WA ?_ ?_|refine WF ?_|refine W1 rfl ?_ ?_|refine W2 rfl ?_ ?_|refine W3 rfl ?_ ?_|refine W4 ?_ ?_|refine W5 rfl ?_ ?_|refine W6 ?_ ?_|refine WN ?_|refine X1 (W1 rfl ?_ ?_)|refine X1 (W2 rfl ?_ ?_)|refine X2 (W7 rfl ?_ ?_)|refine X3 (W7 rfl ?_ ?_)|refine X4 (W7 rfl ?_ ?_)|refine X5 (W7 rfl ?_ ?_))
     all_goals (try (conv => whnf))
     all_goals (try first|exact obA|refine Ob.mk ?_)
     refine Rnd.mk ⟨i + 1,?_,?_,?_⟩
     ·omega
     ·omega
     ·repeat' ((conv => whnf);first|(with_reducible first|rfl|exact jKE|exact jKD)|exact True.intro|intro _|refine WA ?_ ?_|refine WF ?_|refine W1 rfl ?_ ?_|refine W2 rfl ?_ ?_|refine W3 rfl ?_ ?_|refine W4 ?_ ?_|refine W5 rfl ?_ ?_|refine W6 ?_ ?_|refine WN ?_|refine X1 (W1 rfl ?_ ?_)|refine X1 (W2 rfl ?_ ?_)|refine X2 (W7 rfl ?_ ?_)|refine X3 (W7 rfl ?_ ?_)|refine X4 (W7 rfl ?_ ?_)|refine X5 (W7 rfl ?_ ?_))
      all_goals (try (conv => whnf))
      all_goals (try first|exact obA|refine Ob.mk ?_)
      all_goals (rw [← e];rfl)
    ·rw [jTJ s sp i (by omega),hh.1]
instance oSplit (s : List UInt8) : FnM BB 102 [.str s] [] (s.length ≤ 100000) (.own 0) [(0,.own .str (spl s))] := by
 refine FnM.intro (N := 5) [0,2] [] 0 Tryz.call102 Tryz.func102 rfl rfl (by kernel_rfl) (fun hpre => ?_)
 all_goals exact vcA
instance oRSplit (s : List UInt8) : FnM BB 104 [.str s] [] (s.length ≤ 100000) (.own 0) [(0,.own .str (spl s))] := by
 refine FnM.intro (N := 37) [0,2,3,4,5,9,16,25,31] [] 0 Tryz.call104 Tryz.func104 rfl rfl (by kernel_rfl) (fun hpre => ?_)
 (conv => whnf)
 refine LoopStop.mk (α := Nat) (fun i => [(3,.own 0),(4,.str (jNW s i).2),(5,.int .i64 i)]) (fun i => [(0,.own .str (jNW s i).1)]) 1 (fun i => i ≤ s.length) (fun i => s.length - i) 0 (by simp) ?_ (fun i hi => ?_)
 ·repeat' ((conv => whnf);first|(with_reducible first|rfl|exact jKE|exact jKD)|exact True.intro|intro _|refine WA ?_ ?_|refine WF ?_|refine W1 rfl ?_ ?_|refine W2 rfl ?_ ?_|refine W3 rfl ?_ ?_|refine W4 ?_ ?_|refine W5 rfl ?_ ?_|refine W6 ?_ ?_|refine WN ?_|refine X1 (W1 rfl ?_ ?_)|refine X1 (W2 rfl ?_ ?_)|refine X2 (W7 rfl ?_ ?_)|refine X3 (W7 rfl ?_ ?_)|refine X4 (W7 rfl ?_ ?_)|refine X5 (W7 rfl ?_ ?_))
  all_goals (try (conv => whnf))
  all_goals (try rfl)
 ·have hl := jXF s i
  repeat' ((conv => whnf);first|(with_reducible first|rfl|exact jKE|exact jKD)|exact True.intro|intro _|refine WA ?_ ?_|refine WF ?_|refine W1 rfl ?_ ?_|refine W2 rfl ?_ ?_|refine W3 rfl ?_ ?_|refine W4 ?_ ?_|refine W5 rfl ?_ ?_|refine W6 ?_ ?_|refine WN ?_|refine X1 (W1 rfl ?_ ?_)|refine X1 (W2 rfl ?_ ?_)|refine X2 (W7 rfl ?_ ?_)|refine X3 (W7 rfl ?_ ?_)|refine X4 (W7 rfl ?_ ?_)|refine X5 (W7 rfl ?_ ?_))
  all_goals (try (conv => whnf))
  all_goals (try first|exact obA|refine Ob.mk ?_)
  all_goals (try simp only [ZA,ZB,ZC,ZD,ZE,ZF,ZG,ZH,ZI,ZJ,ZK,ZL,ZM,ZN,ZO,Int.toNat_natCast,UInt8.ofNat_toNat,cast_eq] at *)
  ·have h : i < s.length := by omega
   have e := jLH s i h
   rw [jPO ‹_›] at e
   refine Rnd.mk ⟨i + 1,?_,?_,?_⟩
   ·exact h
   ·omega
   ·repeat' ((conv => whnf);first|(with_reducible first|rfl|exact jKE|exact jKD)|exact True.intro|intro _|refine WA ?_ ?_|refine WF ?_|refine W1 rfl ?_ ?_|refine W2 rfl ?_ ?_|refine W3 rfl ?_ ?_|refine W4 ?_ ?_|refine W5 rfl ?_ ?_|refine W6 ?_ ?_|refine WN ?_|refine X1 (W1 rfl ?_ ?_)|refine X1 (W2 rfl ?_ ?_)|refine X2 (W7 rfl ?_ ?_)|refine X3 (W7 rfl ?_ ?_)|refine X4 (W7 rfl ?_ ?_)|refine X5 (W7 rfl ?_ ?_))
    all_goals (try (conv => whnf))
    all_goals (try first|exact obA|refine Ob.mk ?_)
    all_goals (simp only [e,jQU,jQY s i h];done)
  ·skip
   have h : i < s.length := by omega
   have e := jLH s i h
   rw [jN2 ‹_› ‹_›] at e
   repeat' ((conv => whnf);first|(with_reducible first|rfl|exact jKE|exact jKD)|exact True.intro|intro _|refine WA ?_ ?_|refine WF ?_|refine W1 rfl ?_ ?_|refine W2 rfl ?_ ?_|refine W3 rfl ?_ ?_|refine W4 ?_ ?_|refine W5 rfl ?_ ?_|refine W6 ?_ ?_|refine WN ?_|refine X1 (W1 rfl ?_ ?_)|refine X1 (W2 rfl ?_ ?_)|refine X2 (W7 rfl ?_ ?_)|refine X3 (W7 rfl ?_ ?_)|refine X4 (W7 rfl ?_ ?_)|refine X5 (W7 rfl ?_ ?_))
   all_goals (try (conv => whnf))
   all_goals (try first|exact obA|refine Ob.mk ?_)
   refine Rnd.mk ⟨i + 1,?_,?_,?_⟩
   ·exact h
   ·omega
   ·repeat' ((conv => whnf);first|(with_reducible first|rfl|exact jKE|exact jKD)|exact True.intro|intro _|refine WA ?_ ?_|refine WF ?_|refine W1 rfl ?_ ?_|refine W2 rfl ?_ ?_|refine W3 rfl ?_ ?_|refine W4 ?_ ?_|refine W5 rfl ?_ ?_|refine W6 ?_ ?_|refine WN ?_|refine X1 (W1 rfl ?_ ?_)|refine X1 (W2 rfl ?_ ?_)|refine X2 (W7 rfl ?_ ?_)|refine X3 (W7 rfl ?_ ?_)|refine X4 (W7 rfl ?_ ?_)|refine X5 (W7 rfl ?_ ?_))
    all_goals (try (conv => whnf))
    all_goals (try first|exact obA|refine Ob.mk ?_)
    all_goals (simp only [e];done)
  ·have h : i < s.length := by omega
   have e := jLH s i h
   rw [jO1 ‹_› ‹_›] at e
   refine Rnd.mk ⟨i + 1,?_,?_,?_⟩
   ·exact h
   ·omega
   ·repeat' ((conv => whnf);first|(with_reducible first|rfl|exact jKE|exact jKD)|exact True.intro|intro _|refine WA ?_ ?_|refine WF ?_|refine W1 rfl ?_ ?_|refine W2 rfl ?_ ?_|refine W3 rfl ?_ ?_|refine W4 ?_ ?_|refine W5 rfl ?_ ?_|refine W6 ?_ ?_|refine WN ?_|refine X1 (W1 rfl ?_ ?_)|refine X1 (W2 rfl ?_ ?_)|refine X2 (W7 rfl ?_ ?_)|refine X3 (W7 rfl ?_ ?_)|refine X4 (W7 rfl ?_ ?_)|refine X5 (W7 rfl ?_ ?_))
    all_goals (try (conv => whnf))
    all_goals (try first|exact obA|refine Ob.mk ?_)
    all_goals (simp only [e];done)
  ·skip
   repeat' ((conv => whnf);first|(with_reducible first|rfl|exact jKE|exact jKD)|exact True.intro|intro _|refine WA ?_ ?_|refine WF ?_|refine W1 rfl ?_ ?_|refine W2 rfl ?_ ?_|refine W3 rfl ?_ ?_|refine W4 ?_ ?_|refine W5 rfl ?_ ?_|refine W6 ?_ ?_|refine WN ?_|refine X1 (W1 rfl ?_ ?_)|refine X1 (W2 rfl ?_ ?_)|refine X2 (W7 rfl ?_ ?_)|refine X3 (W7 rfl ?_ ?_)|refine X4 (W7 rfl ?_ ?_)|refine X5 (W7 rfl ?_ ?_))
   all_goals (try (conv => whnf))
   rw [ji8 (i := i) (by omega) ‹_›]
  ·rw [jhZ (i := i) (by omega) ‹_›]
instance oWords (kind : Int) (v : List UInt8) : FnM BB 49 [.int .i64 kind,.str v] [] (v.length ≤ 100000) (.own 0) [(0,.own .str (jK1 kind v))] := by
 refine FnM.intro (N := 23) [0,1,4,5,6,8,12,20] [] 0 Tryz.call49 Tryz.func49 rfl rfl (by kernel_rfl) (fun hpre => ?_)
 repeat' ((conv => whnf);first|(with_reducible first|rfl|exact jKE|exact jKD)|exact True.intro|intro _|refine WA ?_ ?_|refine WF ?_|refine W1 rfl ?_ ?_|refine W2 rfl ?_ ?_|refine W3 rfl ?_ ?_|refine W4 ?_ ?_|refine W5 rfl ?_ ?_|refine W6 ?_ ?_|refine WN ?_|refine X1 (W1 rfl ?_ ?_)|refine X1 (W2 rfl ?_ ?_)|refine X2 (W7 rfl ?_ ?_)|refine X3 (W7 rfl ?_ ?_)|refine X4 (W7 rfl ?_ ?_)|refine X5 (W7 rfl ?_ ?_))
 all_goals (try (conv => whnf))
 all_goals (try first|exact obA|refine Ob.mk ?_)
 all_goals (try simp only [ZA,ZB,ZC,ZD,ZE,ZF,ZG,ZH,ZI,ZJ,ZK,ZL,ZM,ZN,ZO,Bool.and_eq_false_iff,Bool.or_eq_false_iff,ge_iff_le,gt_iff_lt,Int.toNat_natCast,UInt8.ofNat_toNat,cast_eq] at *)
 all_goals (first | (simp [jK1, *];done) | (show SV.rd Ty.str _ = _;simp [jK1, *];done) | trace_state)
instance oRWords (kind : Int) (v : List UInt8) : FnM BB 50 [.int .i64 kind,.str v] [] (v.length ≤ 100000) (.own 0) [(0,.own .str (jK1 kind v))] := by
 refine FnM.intro (N := 35) [0,1,4,5,6,12,16,32] [] 0 Tryz.call50 Tryz.func50 rfl rfl (by kernel_rfl) (fun hpre => ?_)
 repeat' ((conv => whnf);first|(with_reducible first|rfl|exact jKE|exact jKD)|exact True.intro|intro _|refine WA ?_ ?_|refine WF ?_|refine W1 rfl ?_ ?_|refine W2 rfl ?_ ?_|refine W3 rfl ?_ ?_|refine W4 ?_ ?_|refine W5 rfl ?_ ?_|refine W6 ?_ ?_|refine WN ?_|refine X1 (W1 rfl ?_ ?_)|refine X1 (W2 rfl ?_ ?_)|refine X2 (W7 rfl ?_ ?_)|refine X3 (W7 rfl ?_ ?_)|refine X4 (W7 rfl ?_ ?_)|refine X5 (W7 rfl ?_ ?_))
 all_goals (try (conv => whnf))
 all_goals (try first|exact obA|refine Ob.mk ?_)
 all_goals (try simp only [ZA,ZB,ZC,ZD,ZE,ZF,ZG,ZH,ZI,ZJ,ZK,ZL,ZM,ZN,ZO,Bool.and_eq_false_iff,Bool.or_eq_false_iff,ge_iff_le,gt_iff_lt,Int.toNat_natCast,UInt8.ofNat_toNat,cast_eq] at *)
 all_goals (try (
  have h3 : kind = 3 → (frL v).1 = [] := fun e => by
   rcases (by assumption : (¬kind = 3 ∨ (frL v).snd = false) ∨ (frL v).fst = []) with (h | h) | h
   ·exact absurd e h
   ·exact jq8 h
   ·exact h
  have h1 : kind = 1 → v = [] := fun e => (by assumption : ¬kind = 1 ∨ v = []).resolve_left (fun h => h e)
  unfold jK1
  rw [if_neg (by assumption)]
  split
  ·rw [if_pos (h1 (by assumption))]
  ·split
   ·rw [if_pos (h3 (by assumption))]
   ·rfl))
 all_goals (first | (simp [jK1, *];done) | (show SV.rd Ty.str _ = _;simp [jK1, *];done) | trace_state)
end
end Go.Vc

namespace Go.Vc.W
open Go.Proofs
set_option maxRecDepth 10000
def joinL : List (List UInt8) → List UInt8
 | [] => []
 | [w] => w
 | w :: r => w ++ 32 :: joinL r
def jL7 (l : List (List UInt8)) (i : Nat) : List UInt8 := joinL (l.take i)
theorem jeS (l : List (List UInt8)) (w : List UInt8) : joinL (l ++ [w]) = (if l = [] then [] else joinL l ++ [32]) ++ w := by
 induction l with
 | nil => rfl
 | cons x r ih =>
  cases r with
  | nil => simp [joinL]
  | cons y r => simp only [List.cons_append,joinL] at ih ⊢;rw [ih];simp
end Go.Vc.W

namespace Go.Vc.W
open Go.Proofs
set_option maxRecDepth 10000
theorem jQM (l : List (List UInt8)) (i : Nat) (h : i < l.length) : jL7 l (i+1) = (if i = 0 then [] else jL7 l i ++ [32]) ++ l.getD i [] := by
  unfold jL7
  rw [take_snoc l i [] h,jeS]
  by_cases e : i = 0
  · simp [e]
  · have : ¬ l.take i = [] := fun e2 => by
      have := congrArg List.length e2
      simp at this
      rcases this with h1 | h1
      · exact e h1
      · subst h1;simp at h
    rw [if_neg this,if_neg e]
theorem jT8 (l : List (List UInt8)) (i : Nat) (h : i < l.length) : (jL7 l i).length + (if i = 0 then 0 else 1) + (l.getD i []).length = (jL7 l (i+1)).length := by
 rw [jQM l i h]
 by_cases e : i = 0
 ·subst e;simp [jL7,joinL]
 ·rw [if_neg e,if_neg e];simp only [List.length_append,List.length_cons,List.length_nil]
theorem jY3 (l : List (List UInt8)) (i : Nat) : (jL7 l i).length ≤ (joinL l).length := by
  have key : ∀ k,i ≤ k → (jL7 l i).length ≤ (jL7 l k).length := by
    intro k
    induction k with
    | zero => intro h;have : i = 0 := by omega
              subst this;exact Nat.le_refl _
    | succ k ih =>
      intro h
      by_cases e : i = k + 1
      · subst e;exact Nat.le_refl _
      · have h1 := ih (by omega)
        by_cases hk : k < l.length
        · have := jT8 l k hk;omega
        · have e2 : jL7 l (k+1) = jL7 l k := by unfold jL7;rw [List.take_of_length_le (by omega),List.take_of_length_le (by omega)]
          rw [e2];exact h1
  by_cases h : i ≤ l.length
  · have := key l.length h
    have e : jL7 l l.length = joinL l := by unfold jL7;rw [List.take_length]
    rwa [e] at this
  · have e : jL7 l i = joinL l := by unfold jL7;rw [List.take_of_length_le (by omega)]
    rw [e];exact Nat.le_refl _
instance fRJoin (l : List (List UInt8)) : Fn BB 98 [.rd .str l] ((joinL l).length ≤ 1000000) (.str (joinL l)) := by
 refine Fn.intro (N := 22) [0,2,3,4,8,12] [] Tryz.call98 Tryz.func98 rfl rfl (by kernel_rfl) (fun hpre => ?_)
 (conv => whnf)
 refine LoopStop.mk (α := Nat) (fun i => [(3,.str (jL7 l i)),(4,.int .i64 i)]) (fun i => []) 0 (fun i => i ≤ l.length) (fun i => l.length - i) 0 (by simp) ?_ (fun i hi => ?_)
 ·repeat' ((conv => whnf);first|(with_reducible first|rfl|exact jKE|exact jKD)|exact True.intro|intro _|refine WA ?_ ?_|refine WF ?_|refine W1 rfl ?_ ?_|refine W2 rfl ?_ ?_|refine W3 rfl ?_ ?_|refine W4 ?_ ?_|refine W5 rfl ?_ ?_|refine W6 ?_ ?_|refine WN ?_|refine X1 (W1 rfl ?_ ?_)|refine X1 (W2 rfl ?_ ?_)|refine X2 (W7 rfl ?_ ?_)|refine X3 (W7 rfl ?_ ?_)|refine X4 (W7 rfl ?_ ?_)|refine X5 (W7 rfl ?_ ?_))
  all_goals (try (conv => whnf))
  all_goals (try rfl)
 ·have hl := jY3 l i
  have hl2 := jY3 l (i+1)
  repeat' ((conv => whnf);first|(with_reducible first|rfl|exact jKE|exact jKD)|exact True.intro|intro _|refine WA ?_ ?_|refine WF ?_|refine W1 rfl ?_ ?_|refine W2 rfl ?_ ?_|refine W3 rfl ?_ ?_|refine W4 ?_ ?_|refine W5 rfl ?_ ?_|refine W6 ?_ ?_|refine WN ?_|refine X1 (W1 rfl ?_ ?_)|refine X1 (W2 rfl ?_ ?_)|refine X2 (W7 rfl ?_ ?_)|refine X3 (W7 rfl ?_ ?_)|refine X4 (W7 rfl ?_ ?_)|refine X5 (W7 rfl ?_ ?_))
  all_goals (try (conv => whnf))
  all_goals (try (simp only [Int.toNat_natCast,Int.reduceToNat,Ty.dflt,cast_eq] at *))
  all_goals (try simp only [ZA,ZB,ZC,ZD,ZE,ZF,ZG,ZH,ZI,ZJ,ZK,ZL,ZM,ZN,ZO,Int.toNat_natCast,UInt8.ofNat_toNat,cast_eq] at *)
  all_goals (try (have h : i < l.length := by omega))
  all_goals (try (have hm := jT8 l i h))
  all_goals (try first|exact obA|refine Ob.mk ?_)
  ·have : ¬ i = 0 := by omega
   rw [if_neg this] at hm
   simp only [List.length_append,List.length_cons,List.length_nil];omega
  ·have e := jQM l i h
   rw [if_neg (by omega)] at e
   refine Rnd.mk ⟨i + 1,?_,?_,?_⟩
   ·exact h
   ·omega
   ·repeat' ((conv => whnf);first|(with_reducible first|rfl|exact jKE|exact jKD)|exact True.intro|intro _|refine WA ?_ ?_|refine WF ?_|refine W1 rfl ?_ ?_|refine W2 rfl ?_ ?_|refine W3 rfl ?_ ?_|refine W4 ?_ ?_|refine W5 rfl ?_ ?_|refine W6 ?_ ?_|refine WN ?_|refine X1 (W1 rfl ?_ ?_)|refine X1 (W2 rfl ?_ ?_)|refine X2 (W7 rfl ?_ ?_)|refine X3 (W7 rfl ?_ ?_)|refine X4 (W7 rfl ?_ ?_)|refine X5 (W7 rfl ?_ ?_))
    all_goals (try (conv => whnf))
    all_goals (try first|exact obA|refine Ob.mk ?_)
    all_goals (rw [e];done)
  ·have h0 : i = 0 := by omega
   have e := jQM l i h
   rw [if_pos h0] at e
   refine Rnd.mk ⟨i + 1,?_,?_,?_⟩
   ·exact h
   ·omega
   ·repeat' ((conv => whnf);first|(with_reducible first|rfl|exact jKE|exact jKD)|exact True.intro|intro _|refine WA ?_ ?_|refine WF ?_|refine W1 rfl ?_ ?_|refine W2 rfl ?_ ?_|refine W3 rfl ?_ ?_|refine W4 ?_ ?_|refine W5 rfl ?_ ?_|refine W6 ?_ ?_|refine WN ?_|refine X1 (W1 rfl ?_ ?_)|refine X1 (W2 rfl ?_ ?_)|refine X2 (W7 rfl ?_ ?_)|refine X3 (W7 rfl ?_ ?_)|refine X4 (W7 rfl ?_ ?_)|refine X5 (W7 rfl ?_ ?_))
    all_goals (try (conv => whnf))
    all_goals (try first|exact obA|refine Ob.mk ?_)
    all_goals (rw [e,h0];simp [jL7,joinL];done)
  ·have e : jL7 l i = joinL l := by unfold jL7;rw [List.take_of_length_le (by omega)]
   rw [e]
end Go.Vc.W

namespace Go.Vc.W
open Go.Proofs
set_option maxRecDepth 100000
def clean (w : List UInt8) : Prop := ¬ w = [] ∧ ∀ c ∈ w,isSp c.toNat = false
theorem jfV (s : List UInt8) (i : Nat) (h : i ≤ s.length) : (∀ w ∈ (jNW s i).1,clean w) ∧ (∀ c ∈ (jNW s i).2,isSp c.toNat = false) ∧ ((jNW s i).1.map fun w => w.length + 1).sum + (jNW s i).2.length ≤ i := by
 induction i with
 | zero => simp [jNW]
 | succ i ih =>
  obtain ⟨h1,h2,h3⟩ := ih (by omega)
  have e := jLH s i (by omega)
  cases hc : isSp (s.getD i 0).toNat with
  | false =>
   rw [jPO hc] at e
   rw [e]
   refine ⟨h1,fun c hcm => ?_,by simp only [List.length_append,List.length_cons,List.length_nil];omega⟩
   rcases List.mem_append.1 hcm with hcm | hcm
   ·exact h2 c hcm
   ·rw [List.mem_singleton] at hcm;subst hcm;exact hc
  | true =>
   by_cases hw : (jNW s i).2 = []
   ·rw [jO1 hc hw] at e
    rw [e]
    exact ⟨h1,by simp,by simp only [List.length_nil];omega⟩
   ·rw [jN2 hc hw] at e
    rw [e]
    refine ⟨fun w hm => ?_,by simp,?_⟩
    ·rcases List.mem_append.1 hm with hm | hm
     ·exact h1 w hm
     ·rw [List.mem_singleton] at hm;subst hm;exact ⟨hw,h2⟩
    ·simp only [List.map_append,List.sum_append,List.map_cons,List.map_nil,List.sum_cons,List.sum_nil,List.length_nil];omega
theorem jg3 (s : List UInt8) : (∀ w ∈ spl s,clean w) ∧ ((spl s).map fun w => w.length + 1).sum ≤ s.length + 1 := by
 obtain ⟨h1,h2,h3⟩ := jfV s s.length (Nat.le_refl _)
 by_cases hw : (jNW s s.length).2 = []
 ·rw [jhZ (Nat.le_refl _) hw]
  exact ⟨h1,by omega⟩
 ·rw [ji8 (Nat.le_refl _) hw]
  refine ⟨fun w hm => ?_,?_⟩
  ·rcases List.mem_append.1 hm with hm | hm
   ·exact h1 w hm
   ·rw [List.mem_singleton] at hm;subst hm;exact ⟨hw,h2⟩
  ·simp only [List.map_append,List.sum_append,List.map_cons,List.map_nil,List.sum_cons,List.sum_nil];omega
theorem jjR (l : List (List UInt8)) : (joinL l).length ≤ (l.map fun w => w.length + 1).sum := by
 induction l with
 | nil => simp [joinL]
 | cons w r ih =>
  cases r with
  | nil => simp [joinL]
  | cons y r => simp only [joinL,List.length_append,List.length_cons,List.map_cons,List.sum_cons] at ih ⊢;omega
end Go.Vc.W

namespace Go.Vc.W
open Go.Proofs
set_option maxRecDepth 10000
theorem jdX (l : List (List UInt8)) : Lib.join l [32] = joinL l := by
 induction l with
 | nil => rfl
 | cons x r ih =>
  cases r with
  | nil => simp [Lib.join,joinL]
  | cons y r => simp [Lib.join,joinL] at ih ⊢;first | exact ih | (rw [ih])
instance fSJoin (l : List (List UInt8)) : Fn BB 144 [.rd .str l,.str [32]] ((joinL l).length ≤ 1000000 ∧ l.length ≤ 1000000) (.str (joinL l)) := by
 refine Fn.liftB Tryz.call144 fun hp r β w vs hG m hl => ?_
 obtain ⟨hlen,hl⟩ := hl
 match vs,hlen with
 | [a,b],_ =>
  have h0 := hl 0 _ a rfl rfl
  have h1 := hl 1 _ b rfl rfl
  cases h1 with
  | str k =>
   rcases jj5 m.vis h0 with ⟨e,x,c,rfl⟩ | ⟨bk,off,cap,rfl,h2,h3,h4,h5⟩
   ·subst e
    refine ⟨_,(Tryz.strings_Join_none x c _ w).mono fun e w' h => ⟨h.1,by rw [h.2];exact Go.RowKit.Below.refl _ _⟩,?_⟩
    exact .str (by simp [joinL])
   ·have e1 : (l.map fun x => (⟨x.toArray⟩ : ByteArray)).map (·.data.toList) = l := by simp [Function.comp_def]
    have := Tryz.strings_Join bk off cap (l.map fun x => ⟨x.toArray⟩) ⟨[(32:UInt8)].toArray⟩ w (fun j x hj => by
     rw [List.getElem?_map] at hj
     cases hq : l[j]? with
     | none => rw [hq] at hj;cases hj
     | some y => rw [hq] at hj;cases hj;exact h5 j y hq) h4 (by simp;omega) (by simpa using h2) (by rw [e1];show (Lib.join l [32]).length ≤ _;rw [jdX];omega)
    rw [e1,List.length_map] at this
    refine ⟨_,this,?_⟩
    have e2 : Lib.join l (ByteArray.mk [(32:UInt8)].toArray).data.toList = joinL l := jdX l
    rw [e2]
    exact .str (by omega)
instance fWJoin (l : List (List UInt8)) : Fn BB 97 [.rd .str l] ((joinL l).length ≤ 1000000 ∧ l.length ≤ 1000000) (.str (joinL l)) := by
 refine Fn.intro (N := 5) [0,2] [] Tryz.call97 Tryz.func97 rfl rfl (by kernel_rfl) (fun hpre => ?_)
 all_goals exact vcA
end Go.Vc.W
