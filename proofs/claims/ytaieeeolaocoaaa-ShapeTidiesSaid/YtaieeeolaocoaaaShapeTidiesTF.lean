/- A part of the proof: lemmas and walks that the last text of the claim joins; no condition. -/
import Derived.Test.YtaieeeolaocoaaaShapeTidiesVE
import Derived.Laws.Externs
import Derived.Test.YtaieeeolaocoaaaChecked
import Derived.Shelf.Spec.SlicesInsert
import Derived.Shelf.Spec.SlicesInsertGrow
import Derived.Shelf.Slices.Turned
import Derived.Shelf.Slices.Reverse
import Derived.Shelf.Slices.Equal
import Derived.Ground.Names2Prog
import Derived.Shelf.Slices.Clone
import Derived.Shelf.Slices.Delete
import Derived.Shelf.Slices.Cells
import Derived.Shelf.Slices.Empties
import Derived.Shelf.Slices.Empties2
import Derived.Ground.SlgnProg
import Derived.Shelf.SlicesE.Clone
import Derived.Test.YtaieeeolaocoaaaProg
set_option linter.unusedVariables false
set_option linter.unusedSimpArgs false
set_option maxHeartbeats 8000000
namespace Go.Vc
open Go.Proofs
theorem mixed : Try.prog.follows .mixedOrders = true := by kernel_rfl
abbrev qm1 : Ty := .int .i64
abbrev zR7 : Ty := .pr qm1 qm1
abbrev qm9 : Ty := .pr .str .str
abbrev ql2 : Ty := .pr qm1 (.pr qm1 (.pr .str (.pr (.sl qm9) (.pr .str (.pr qm1 (.sl qm1))))))
def tyB (t : TypeId) : Option Ty :=
 bif Nat.beq t 3 then some qm1 else bif Nat.beq t 4 then some .bool else bif Nat.beq t 5 then some .byte else bif Nat.beq t 9 then some .str else bif Nat.beq t 59 then some qm9 else bif Nat.beq t 40 then some ql2 else bif Nat.beq t 82 then some zR7 else bif Nat.beq t 71 then some .flt else bif Nat.beq t 30 then some (.sl qm1) else none
def zXH (t : TypeId) : Bool := Nat.beq t 59
theorem zOP : ∀ t, zXH t = true → Try.prog.stoodInHeld t = false ∧ Try.prog.eqGuardType Try.prog.depth t = false ∧ ((Try.prog.fieldsOf t).toList.all fun f => f.name != "_") = true := by
 intro t h
 obtain rfl := ql7 h
 exact ⟨by kernel_rfl,by kernel_rfl,by kernel_rfl⟩
noncomputable abbrev BB : Base := { P := Try.prog,mixed := mixed,G := fun _ => True,mono := fun _ _ _ h => h,ty0 := tyB,eqs := zXH,eqs_ok := zOP }
set_option maxRecDepth 10000
@[simp] theorem zXG : ql3 Try.prog 1 = 8 := rfl
@[simp] theorem zUK : ql3 BB.P 1 = 8 := rfl
@[simp] theorem zXJ : ql3 Try.prog 2 = 8 := rfl
@[simp] theorem zVG : ql3 BB.P 2 = 8 := rfl
@[simp] theorem bytes3 : ql3 Try.prog 3 = 8 := rfl
@[simp] theorem zWC : ql3 BB.P 3 = 8 := rfl
@[simp] theorem bytes4 : ql3 Try.prog 4 = 1 := rfl
@[simp] theorem zWM : ql3 BB.P 4 = 1 := rfl
@[simp] theorem bytes5 : ql3 Try.prog 5 = 1 := rfl
@[simp] theorem zWI : ql3 BB.P 5 = 1 := rfl
@[simp] theorem zXF : ql3 Try.prog 6 = 1 := rfl
@[simp] theorem zWY : ql3 BB.P 6 = 1 := rfl
@[simp] theorem zXD : ql3 Try.prog 7 = 24 := rfl
@[simp] theorem zU6 : ql3 BB.P 7 = 24 := rfl
@[simp] theorem zXA : ql3 Try.prog 8 = 24 := rfl
@[simp] theorem zUH : ql3 BB.P 8 = 24 := rfl
@[simp] theorem bytes9 : ql3 Try.prog 9 = 16 := rfl
@[simp] theorem zVM : ql3 BB.P 9 = 16 := rfl
@[simp] theorem zUG : ql3 Try.prog 10 = 16 := rfl
@[simp] theorem zRT : ql3 BB.P 10 = 16 := rfl
@[simp] theorem zUT : ql3 Try.prog 11 = 16 := rfl
@[simp] theorem zSY : ql3 BB.P 11 = 16 := rfl
@[simp] theorem zWB : ql3 Try.prog 12 = 8 := rfl
@[simp] theorem zSL : ql3 BB.P 12 = 8 := rfl
@[simp] theorem zU4 : ql3 Try.prog 13 = 24 := rfl
@[simp] theorem zTP : ql3 BB.P 13 = 24 := rfl
@[simp] theorem zUQ : ql3 Try.prog 14 = 24 := rfl
@[simp] theorem zSE : ql3 BB.P 14 = 24 := rfl
@[simp] theorem zUO : ql3 Try.prog 15 = 8 := rfl
@[simp] theorem zRI : ql3 BB.P 15 = 8 := rfl
@[simp] theorem zTX : ql3 Try.prog 16 = 8 := rfl
@[simp] theorem zR4 : ql3 BB.P 16 = 8 := rfl
@[simp] theorem zVK : ql3 Try.prog 17 = 8 := rfl
@[simp] theorem zR2 : ql3 BB.P 17 = 8 := rfl
@[simp] theorem zVA : ql3 Try.prog 18 = 8 := rfl
@[simp] theorem zSC : ql3 BB.P 18 = 8 := rfl
@[simp] theorem zT0 : ql3 Try.prog 19 = 8 := rfl
@[simp] theorem zRK : ql3 BB.P 19 = 8 := rfl
@[simp] theorem zUY : ql3 Try.prog 20 = 16 := rfl
@[simp] theorem zTI : ql3 BB.P 20 = 16 := rfl
@[simp] theorem bytes21 : ql3 Try.prog 21 = 4 := rfl
@[simp] theorem zSF : ql3 BB.P 21 = 4 := rfl
@[simp] theorem zVP : ql3 Try.prog 22 = 24 := rfl
@[simp] theorem zSZ : ql3 BB.P 22 = 24 := rfl
@[simp] theorem bytes23 : ql3 Try.prog 23 = 24 := rfl
@[simp] theorem zSB : ql3 BB.P 23 = 24 := rfl
@[simp] theorem zVF : ql3 Try.prog 24 = 24 := rfl
@[simp] theorem zSX : ql3 BB.P 24 = 24 := rfl
@[simp] theorem bytes25 : ql3 Try.prog 25 = 8 := rfl
@[simp] theorem zS5 : ql3 BB.P 25 = 8 := rfl
@[simp] theorem bytes26 : ql3 Try.prog 26 = 8 := rfl
@[simp] theorem zR8 : ql3 BB.P 26 = 8 := rfl
@[simp] theorem bytes27 : ql3 Try.prog 27 = 8 := rfl
@[simp] theorem zSM : ql3 BB.P 27 = 8 := rfl
@[simp] theorem bytes28 : ql3 Try.prog 28 = 8 := rfl
@[simp] theorem zTR : ql3 BB.P 28 = 8 := rfl
@[simp] theorem zW0 : ql3 Try.prog 29 = 8 := rfl
@[simp] theorem zRS : ql3 BB.P 29 = 8 := rfl
@[simp] theorem bytes30 : ql3 Try.prog 30 = 24 := rfl
@[simp] theorem zR9 : ql3 BB.P 30 = 24 := rfl
@[simp] theorem zT5 : ql3 Try.prog 31 = 8 := rfl
@[simp] theorem zTG : ql3 BB.P 31 = 8 := rfl
@[simp] theorem zUW : ql3 Try.prog 32 = 8 := rfl
@[simp] theorem zTA : ql3 BB.P 32 = 8 := rfl
@[simp] theorem zVI : ql3 Try.prog 33 = 8 := rfl
@[simp] theorem zSR : ql3 BB.P 33 = 8 := rfl
@[simp] theorem zT3 : ql3 Try.prog 34 = 8 := rfl
@[simp] theorem zS2 : ql3 BB.P 34 = 8 := rfl
@[simp] theorem zUA : ql3 Try.prog 36 = 8 := rfl
@[simp] theorem zRW : ql3 BB.P 36 = 8 := rfl
@[simp] theorem zWK : ql3 Try.prog 37 = 8 := rfl
@[simp] theorem zRX : ql3 BB.P 37 = 8 := rfl
@[simp] theorem zU5 : ql3 Try.prog 38 = 24 := rfl
@[simp] theorem zSG : ql3 BB.P 38 = 24 := rfl
@[simp] theorem zWS : ql3 Try.prog 39 = 104 := rfl
@[simp] theorem zRE : ql3 BB.P 39 = 104 := rfl
@[simp] theorem zHY : ql3 Try.prog 40 = 104 := rfl
@[simp] theorem zE9 : ql3 BB.P 40 = 104 := rfl
@[simp] theorem zT6 : ql3 Try.prog 41 = 8 := rfl
@[simp] theorem zTJ : ql3 BB.P 41 = 8 := rfl
@[simp] theorem zTY : ql3 Try.prog 42 = 8 := rfl
@[simp] theorem zS9 : ql3 BB.P 42 = 8 := rfl
@[simp] theorem zWJ : ql3 Try.prog 43 = 8 := rfl
@[simp] theorem zRH : ql3 BB.P 43 = 8 := rfl
@[simp] theorem zWG : ql3 Try.prog 44 = 8 := rfl
@[simp] theorem zSV : ql3 BB.P 44 = 8 := rfl
@[simp] theorem zT1 : ql3 Try.prog 45 = 8 := rfl
@[simp] theorem zTT : ql3 BB.P 45 = 8 := rfl
@[simp] theorem zWU : ql3 Try.prog 46 = 8 := rfl
@[simp] theorem zRC : ql3 BB.P 46 = 8 := rfl
@[simp] theorem zVV : ql3 Try.prog 47 = 8 := rfl
@[simp] theorem zTV : ql3 BB.P 47 = 8 := rfl
@[simp] theorem zW4 : ql3 Try.prog 48 = 8 := rfl
@[simp] theorem zSQ : ql3 BB.P 48 = 8 := rfl
@[simp] theorem zWP : ql3 Try.prog 49 = 8 := rfl
@[simp] theorem zSU : ql3 BB.P 49 = 8 := rfl
@[simp] theorem zWV : ql3 Try.prog 50 = 8 := rfl
@[simp] theorem zRP : ql3 BB.P 50 = 8 := rfl
@[simp] theorem zWW : ql3 Try.prog 51 = 8 := rfl
@[simp] theorem zS7 : ql3 BB.P 51 = 8 := rfl
@[simp] theorem zVQ : ql3 Try.prog 53 = 8 := rfl
@[simp] theorem zTM : ql3 BB.P 53 = 8 := rfl
@[simp] theorem zVH : ql3 Try.prog 54 = 8 := rfl
@[simp] theorem zSJ : ql3 BB.P 54 = 8 := rfl
@[simp] theorem zT8 : ql3 Try.prog 55 = 24 := rfl
@[simp] theorem zS8 : ql3 BB.P 55 = 24 := rfl
@[simp] theorem zVT : ql3 Try.prog 56 = 8 := rfl
@[simp] theorem zTQ : ql3 BB.P 56 = 8 := rfl
@[simp] theorem zU8 : ql3 Try.prog 57 = 8 := rfl
@[simp] theorem zTC : ql3 BB.P 57 = 8 := rfl
@[simp] theorem zV2 : ql3 Try.prog 58 = 32 := rfl
@[simp] theorem zRJ : ql3 BB.P 58 = 32 := rfl
@[simp] theorem zJB : ql3 Try.prog 59 = 32 := rfl
@[simp] theorem zE5 : ql3 BB.P 59 = 32 := rfl
@[simp] theorem zUI : ql3 Try.prog 60 = 8 := rfl
@[simp] theorem zS1 : ql3 BB.P 60 = 8 := rfl
@[simp] theorem zV8 : ql3 Try.prog 61 = 8 := rfl
@[simp] theorem zRV : ql3 BB.P 61 = 8 := rfl
@[simp] theorem zU3 : ql3 Try.prog 62 = 8 := rfl
@[simp] theorem zR1 : ql3 BB.P 62 = 8 := rfl
@[simp] theorem zVL : ql3 Try.prog 63 = 8 := rfl
@[simp] theorem zRL : ql3 BB.P 63 = 8 := rfl
@[simp] theorem zWO : ql3 Try.prog 64 = 8 := rfl
@[simp] theorem zS4 : ql3 BB.P 64 = 8 := rfl
@[simp] theorem zVY : ql3 Try.prog 65 = 8 := rfl
@[simp] theorem zSK : ql3 BB.P 65 = 8 := rfl
@[simp] theorem zT9 : ql3 Try.prog 66 = 8 := rfl
@[simp] theorem zTN : ql3 BB.P 66 = 8 := rfl
@[simp] theorem zV3 : ql3 Try.prog 67 = 8 := rfl
@[simp] theorem zSI : ql3 BB.P 67 = 8 := rfl
@[simp] theorem zUR : ql3 Try.prog 68 = 8 := rfl
@[simp] theorem zR3 : ql3 BB.P 68 = 8 := rfl
@[simp] theorem zUL : ql3 Try.prog 69 = 8 := rfl
@[simp] theorem zRO : ql3 BB.P 69 = 8 := rfl
@[simp] theorem zV9 : ql3 Try.prog 70 = 8 := rfl
@[simp] theorem zSN : ql3 BB.P 70 = 8 := rfl
@[simp] theorem zWA : ql3 Try.prog 71 = 8 := rfl
@[simp] theorem zSP : ql3 BB.P 71 = 8 := rfl
@[simp] theorem zVZ : ql3 Try.prog 72 = 32 := rfl
@[simp] theorem zSS : ql3 BB.P 72 = 32 := rfl
@[simp] theorem zW2 : ql3 Try.prog 73 = 32 := rfl
@[simp] theorem zRR : ql3 BB.P 73 = 32 := rfl
@[simp] theorem zVB : ql3 Try.prog 75 = 8 := rfl
@[simp] theorem zTF : ql3 BB.P 75 = 8 := rfl
@[simp] theorem zWL : ql3 Try.prog 76 = 8 := rfl
@[simp] theorem zTH : ql3 BB.P 76 = 8 := rfl
@[simp] theorem zV1 : ql3 Try.prog 77 = 8 := rfl
@[simp] theorem zR5 : ql3 BB.P 77 = 8 := rfl
@[simp] theorem zU9 : ql3 Try.prog 78 = 8 := rfl
@[simp] theorem zRD : ql3 BB.P 78 = 8 := rfl
@[simp] theorem zUX : ql3 Try.prog 79 = 8 := rfl
@[simp] theorem zRY : ql3 BB.P 79 = 8 := rfl
@[simp] theorem zVR : ql3 Try.prog 80 = 8 := rfl
@[simp] theorem zSA : ql3 BB.P 80 = 8 := rfl
@[simp] theorem zUJ : ql3 Try.prog 81 = 16 := rfl
@[simp] theorem zTD : ql3 BB.P 81 = 16 := rfl
@[simp] theorem zUF : ql3 Try.prog 82 = 16 := rfl
@[simp] theorem zTS : ql3 BB.P 82 = 16 := rfl
@[simp] theorem zWD : ql3 Try.prog 83 = 24 := rfl
@[simp] theorem zRU : ql3 BB.P 83 = 24 := rfl
@[simp] theorem zVC : ql3 Try.prog 84 = 8 := rfl
@[simp] theorem zS3 : ql3 BB.P 84 = 8 := rfl
@[simp] theorem zWE : ql3 Try.prog 85 = 8 := rfl
@[simp] theorem zR6 : ql3 BB.P 85 = 8 := rfl
@[simp] theorem zT7 : ql3 Try.prog 86 = 8 := rfl
@[simp] theorem zS6 : ql3 BB.P 86 = 8 := rfl
@[simp] theorem zVJ : ql3 Try.prog 87 = 40 := rfl
@[simp] theorem zTL : ql3 BB.P 87 = 40 := rfl
@[simp] theorem zU0 : ql3 Try.prog 88 = 40 := rfl
@[simp] theorem zS0 : ql3 BB.P 88 = 40 := rfl
@[simp] theorem zWN : ql3 Try.prog 92 = 8 := rfl
@[simp] theorem zRQ : ql3 BB.P 92 = 8 := rfl
@[simp] theorem zVN : ql3 Try.prog 93 = 4 := rfl
@[simp] theorem zSH : ql3 BB.P 93 = 4 := rfl
@[simp] theorem zU1 : ql3 Try.prog 94 = 1 := rfl
@[simp] theorem zRN : ql3 BB.P 94 = 1 := rfl
@[simp] theorem zUN : ql3 Try.prog 95 = 1 := rfl
@[simp] theorem zRF : ql3 BB.P 95 = 1 := rfl
@[simp] theorem zVU : ql3 Try.prog 96 = 8 := rfl
@[simp] theorem zSD : ql3 BB.P 96 = 8 := rfl
@[simp] theorem zV6 : ql3 Try.prog 97 = 8 := rfl
@[simp] theorem zR0 : ql3 BB.P 97 = 8 := rfl
@[simp] theorem zU7 : ql3 Try.prog 98 = 4 := rfl
@[simp] theorem zTE : ql3 BB.P 98 = 4 := rfl
@[simp] theorem zUU : ql3 Try.prog 99 = 4 := rfl
@[simp] theorem zRZ : ql3 BB.P 99 = 4 := rfl
@[simp] theorem zRG : ql3 Try.prog 100 = 48 := rfl
@[simp] theorem zQZ : ql3 BB.P 100 = 48 := rfl
@[simp] theorem zSO : ql3 Try.prog 101 = 48 := rfl
@[simp] theorem zQ1 : ql3 BB.P 101 = 48 := rfl
@[simp] theorem zSW : ql3 Try.prog 102 = 8 := rfl
@[simp] theorem zQC : ql3 BB.P 102 = 8 := rfl
theorem zQ6 (x : UInt8) : 0 ≤ (x.toNat : Int) ∧ (x.toNat : Int) ≤ 255 := by have := x.toNat_lt;omega
theorem obA {p : Prop} (h : p := by first|exact Ob.mk (zQ6 _)|(refine Ob.mk ?_;first|exact True.intro|assumption|omega|(simp only [ZA,ZB,ZC,ZD,ZE,ZF,ZG,ZH,ZI,ZJ,ZK,ZL,ZM,ZN,ZO,Int.toNat_natCast,UInt8.ofNat_toNat,cast_eq] at *;omega)|(show (_:Int) = _;omega)|(show zDM _ = _;with_unfolding_all rfl)|((first|show (_:Nat) ≤ _|show (_:Nat) ≤ _ ∧ (_:Nat) ≤ _|show (_:Int) ≤ _ ∧ (_:Int) ≤ _ ∧ (_:Int) ≤ _ ∧ (_:Int) ≤ _);(simp <;> omega)))|(show (_:Int) = _;omega)|(show zDM _ = _;with_unfolding_all rfl)|((first|show (_:Nat) ≤ _|show (_:Nat) ≤ _ ∧ (_:Nat) ≤ _|show (_:Int) ≤ _ ∧ (_:Int) ≤ _ ∧ (_:Int) ≤ _ ∧ (_:Int) ≤ _);(simp <;> omega))) : p := h
theorem vcA {p : Prop} (h : p := by (repeat' ((conv => whnf);first|(with_reducible first|rfl|exact qmF|exact qmE)|exact True.intro|intro _|refine WA ?_ ?_|refine WF ?_|refine W1 rfl ?_ ?_|refine W2 rfl ?_ ?_|refine W3 rfl ?_ ?_|refine W4 ?_ ?_|refine W5 rfl ?_ ?_|refine W6 ?_ ?_|refine WN ?_|refine X1 (W1 rfl ?_ ?_)|refine X1 (W2 rfl ?_ ?_)|refine X2 (W7 rfl ?_ ?_)|refine X3 (W7 rfl ?_ ?_)|refine X4 (W7 rfl ?_ ?_)|refine X5 (W7 rfl ?_ ?_)));(all_goals (try (conv => whnf)));(all_goals (try first|exact obA|refine Ob.mk ?_));(all_goals (try rfl))) : p := h
end Go.Vc

namespace Go.Vc
open Go.Proofs
set_option maxRecDepth 10000
abbrev ql4 := ql2.T
abbrev ql4.up (n : ql4) : Int := n.2.2.2.2.2.1
abbrev ql4.kids (n : ql4) : List Int := n.2.2.2.2.2.2
def isT (l : List ql4) (i : Int) : Bool := decide (0 ≤ i) && decide (i < l.length)
instance f37 (l : List ql4) (i : Int) : Fn BB 41 [.agg [.rd ql2 l],.int .i64 i] True (.bool (isT l i)) := by
 refine Fn.intro (N := 14) [0,1,2,4] [] Try.call41 Try.func41 rfl rfl (by kernel_rfl) (fun hpre => ?_)
 repeat' ((conv => whnf);first|(with_reducible first|rfl|exact qmF|exact qmE)|exact True.intro|intro _|refine WA ?_ ?_|refine WF ?_|refine W1 rfl ?_ ?_|refine W2 rfl ?_ ?_|refine W3 rfl ?_ ?_|refine W4 ?_ ?_|refine W5 rfl ?_ ?_|refine W6 ?_ ?_|refine WN ?_|refine X1 (W1 rfl ?_ ?_)|refine X1 (W2 rfl ?_ ?_)|refine X2 (W7 rfl ?_ ?_)|refine X3 (W7 rfl ?_ ?_)|refine X4 (W7 rfl ?_ ?_)|refine X5 (W7 rfl ?_ ?_))
 all_goals (try (conv => whnf))
 all_goals (simp_all [isT];done)
end Go.Vc

namespace Go.Vc
set_option autoImplicit false
abbrev Ev := Nat × Int × Nat × Bool
def unseen (s : List Bool) : Nat := s.count false
def okK (s : List Bool) (k : Int) : Bool := decide (0 ≤ k) && !(s.getD k.toNat true)
theorem qnL {s : List Bool} {k : Int} (h : okK s k = true) : 0 ≤ k ∧ k.toNat < s.length ∧ s[k.toNat]? = some false := by
 unfold okK at h
 simp only [Bool.and_eq_true,decide_eq_true_eq,Bool.not_eq_true'] at h
 have hl : k.toNat < s.length := by
  rcases Nat.lt_or_ge k.toNat s.length with q | q
  ·exact q
  ·have := h.2;simp [List.getD,List.getElem?_eq_none q] at this
 refine ⟨h.1,hl,?_⟩
 have := h.2
 rw [List.getD_eq_getElem?_getD,List.getElem?_eq_getElem hl] at this
 rw [List.getElem?_eq_getElem hl]
 simpa using this
theorem qn5 {s : List Bool} {k : Nat} (h : s[k]? = some false) : unseen (s.set k true) + 1 = unseen s := by
 unfold unseen
 induction s generalizing k with
 | nil => cases h
 | cons x r ih =>
  cases k with
  | zero => simp at h;subst h;simp
  | succ k =>
   have := ih (k := k) (by simpa using h)
   simp only [List.set_cons_succ,List.count_cons]
   omega
def dfs (K : Nat → List Int) (s : List Bool) (i j c : Nat) : List Ev × List Bool × Nat :=
 if h : j < (K i).length then
  if hk : okK s ((K i).getD j 0) = true then
   let r1 := dfs K (s.set ((K i).getD j 0).toNat true) ((K i).getD j 0).toNat 0 (c + 1)
   if hg : unseen r1.2.1 < unseen s then
    let r2 := dfs K r1.2.1 i (j + 1) r1.2.2
    ((((K i).getD j 0).toNat,(i : Int),c,false) :: (r1.1 ++ r2.1),r2.2.1,r2.2.2)
   else ([],s,c)
  else dfs K s i (j + 1) c
 else ([(i,0,c,true)],s,c + 1)
termination_by (unseen s,(K i).length - j)
decreasing_by
 ·have := qn5 (qnL hk).2.2
  exact Prod.Lex.left _ _ (by omega)
 ·exact Prod.Lex.left _ _ hg
 ·exact Prod.Lex.right _ (by omega)
variable {K : Nat → List Int}
theorem qpD {s : List Bool} {i j c : Nat} (h : ¬ j < (K i).length) : dfs K s i j c = ([(i,0,c,true)],s,c + 1) := by
 rw [dfs,dif_neg h]
theorem qpG {s : List Bool} {i j c : Nat} (h : j < (K i).length) (hk : okK s ((K i).getD j 0) = false) : dfs K s i j c = dfs K s i (j + 1) c := by
 rw [dfs,dif_pos h,dif_neg (by rw [hk];decide)]
theorem zH2 {s : List Bool} {i j c : Nat} (h : j < (K i).length) (hk : okK s ((K i).getD j 0) = true) : dfs K s i j c =
  (let r1 := dfs K (s.set ((K i).getD j 0).toNat true) ((K i).getD j 0).toNat 0 (c + 1)
   if hg : unseen r1.2.1 < unseen s then
    let r2 := dfs K r1.2.1 i (j + 1) r1.2.2
    ((((K i).getD j 0).toNat,(i : Int),c,false) :: (r1.1 ++ r2.1),r2.2.1,r2.2.2)
   else ([],s,c)) := by
 rw [dfs,dif_pos h,dif_pos hk]
theorem zEM {P : List Bool → Nat → Nat → Nat → Prop}
  (h : ∀ s i j c,(∀ s' i' j' c',(unseen s' < unseen s ∨ (unseen s' = unseen s ∧ (K i').length - j' < (K i).length - j)) → P s' i' j' c') → P s i j c) : ∀ s i j c,P s i j c := by
 have main : ∀ a b s i j c,unseen s = a → (K i).length - j = b → P s i j c := by
  intro a
  induction a using Nat.strongRecOn with
  | ind a iha =>
   intro b
   induction b using Nat.strongRecOn with
   | ind b ihb =>
    intro s i j c ha hb
    refine h s i j c fun s' i' j' c' q => ?_
    rcases q with q | ⟨q1,q2⟩
    ·exact iha (unseen s') (by omega) _ s' i' j' c' rfl rfl
    ·exact ihb _ (by omega) s' i' j' c' (by omega) rfl
 exact fun s i j c => main _ _ s i j c rfl rfl
theorem zI0 : ∀ (s : List Bool) (i j c : Nat),unseen (dfs K s i j c).2.1 ≤ unseen s := by
 refine zEM (K := K) fun s i j c ih => ?_
 by_cases h : j < (K i).length
 ·cases hk : okK s ((K i).getD j 0) with
  | false => rw [qpG h hk];exact ih s i (j + 1) c (.inr ⟨rfl,by omega⟩)
  | true =>
   rw [zH2 h hk]
   dsimp only
   split
   ·rename_i hg
    have := ih _ i (j + 1) (dfs K (s.set ((K i).getD j 0).toNat true) ((K i).getD j 0).toNat 0 (c + 1)).2.2 (.inl hg)
    exact Nat.le_trans this (Nat.le_of_lt hg)
   ·exact Nat.le_refl _
 ·rw [qpD h];exact Nat.le_refl _
theorem zAW {s : List Bool} {k : Nat} (hk : s[k]? = some false) (c : Nat) : unseen (dfs K (s.set k true) k 0 c).2.1 < unseen s := by
 have h1 := zI0 (K := K) (s.set k true) k 0 c
 have h2 := qn5 hk
 omega
theorem qr0 {s : List Bool} {i j c : Nat} (h : j < (K i).length) (hk : okK s ((K i).getD j 0) = true) : dfs K s i j c =
    ((((K i).getD j 0).toNat,(i : Int),c,false) :: ((dfs K (s.set ((K i).getD j 0).toNat true) ((K i).getD j 0).toNat 0 (c + 1)).1 ++
      (dfs K (dfs K (s.set ((K i).getD j 0).toNat true) ((K i).getD j 0).toNat 0 (c + 1)).2.1 i (j + 1) (dfs K (s.set ((K i).getD j 0).toNat true) ((K i).getD j 0).toNat 0 (c + 1)).2.2).1),
     (dfs K (dfs K (s.set ((K i).getD j 0).toNat true) ((K i).getD j 0).toNat 0 (c + 1)).2.1 i (j + 1) (dfs K (s.set ((K i).getD j 0).toNat true) ((K i).getD j 0).toNat 0 (c + 1)).2.2).2.1,
     (dfs K (dfs K (s.set ((K i).getD j 0).toNat true) ((K i).getD j 0).toNat 0 (c + 1)).2.1 i (j + 1) (dfs K (s.set ((K i).getD j 0).toNat true) ((K i).getD j 0).toNat 0 (c + 1)).2.2).2.2) := by
  rw [zH2 h hk]
  dsimp only
  rw [dif_pos (zAW (qnL hk).2.2 (c + 1))]
theorem qtP {P : List Bool → Nat → Nat → Nat → Prop}
  (he : ∀ s i j c,¬ j < (K i).length → P s i j c)
  (hb : ∀ s i j c,j < (K i).length → okK s ((K i).getD j 0) = false → P s i (j + 1) c → P s i j c)
  (ho : ∀ s i j c,j < (K i).length → okK s ((K i).getD j 0) = true → P (s.set ((K i).getD j 0).toNat true) ((K i).getD j 0).toNat 0 (c + 1) →
   (P (dfs K (s.set ((K i).getD j 0).toNat true) ((K i).getD j 0).toNat 0 (c + 1)).2.1 i (j + 1) (dfs K (s.set ((K i).getD j 0).toNat true) ((K i).getD j 0).toNat 0 (c + 1)).2.2) → P s i j c) :
  ∀ s i j c,P s i j c := by
 refine zEM (K := K) fun s i j c ih => ?_
 by_cases h : j < (K i).length
 ·cases hk : okK s ((K i).getD j 0) with
  | false => exact hb s i j c h hk (ih s i (j + 1) c (.inr ⟨rfl,by omega⟩))
  | true =>
   have h2 := qn5 (qnL hk).2.2
   exact ho s i j c h hk (ih _ _ _ _ (.inl (by omega))) (ih _ _ _ _ (.inl (zAW (qnL hk).2.2 (c + 1))))
 ·exact he s i j c h
def qu0 (K : Nat → List Int) : List (Nat × Nat) → List Bool → Nat → List Ev
 | [],_,_ => []
 | (i,j) :: rest,s,c => (dfs K s i j c).1 ++ qu0 K rest (dfs K s i j c).2.1 (dfs K s i j c).2.2
theorem zFD {s : List Bool} {i j c : Nat} {rest : List (Nat × Nat)} (h : ¬ j < (K i).length) : qu0 K ((i,j) :: rest) s c = (i,0,c,true) :: qu0 K rest s (c + 1) := by
 rw [qu0,qpD h];rfl
theorem zEU {s : List Bool} {i j c : Nat} {rest : List (Nat × Nat)} (h : j < (K i).length) (hk : okK s ((K i).getD j 0) = false) : qu0 K ((i,j) :: rest) s c = qu0 K ((i,j + 1) :: rest) s c := by
 rw [qu0,qu0,qpG h hk]
theorem zH3 {s : List Bool} {i j c : Nat} {rest : List (Nat × Nat)} (h : j < (K i).length) (hk : okK s ((K i).getD j 0) = true) :
  qu0 K ((i,j) :: rest) s c = (((K i).getD j 0).toNat,(i : Int),c,false) :: qu0 K ((((K i).getD j 0).toNat,0) :: (i,j + 1) :: rest) (s.set ((K i).getD j 0).toNat true) (c + 1) := by
 rw [qu0,qr0 h hk,qu0,qu0]
 simp only [List.cons_append,List.append_assoc]
def zCW (K : Nat → List Int) (n : Nat) : List Ev := if n = 0 then [] else (0, -1,0,false) :: qu0 K [(0,0)] ((List.replicate n false).set 0 true) 1
end Go.Vc

namespace Go.Vc
open Go.Proofs
set_option autoImplicit false
def zM1 (n : ql4) (k : Int) : ql4 := (n.1,n.2.1,n.2.2.1,n.2.2.2.1,n.2.2.2.2.1,n.2.2.2.2.2.1,n.2.2.2.2.2.2 ++ [k])
def mkN (n : ql4) (up : Int) : ql4 := (n.1,n.2.1,n.2.2.1,n.2.2.2.1,n.2.2.2.2.1,up,[])
def qmM (out : List ql4) (p : Nat) (k : Int) : List ql4 := out.set p (zM1 (out.getD p ql2.dflt) k)
structure PSt where
 out : List ql4
 P : List Nat
def PSt.step (t : List ql4) (x : PSt) (e : Ev) : PSt :=
 match e.2.2.2,x.P with
 | true,P => { out := x.out,P := P.tail }
 | false,[] => { out := x.out ++ [mkN (t.getD e.1 ql2.dflt) (-1)],P := [x.out.length] }
 | false,p :: P => { out := qmM x.out p x.out.length ++ [mkN (t.getD e.1 ql2.dflt) p],P := x.out.length :: p :: P }
def PSt.run (t : List ql4) : PSt → List Ev → PSt
 | x,[] => x
 | x,e :: l => PSt.run t (x.step t e) l
theorem qrV (t : List ql4) : ∀ (l l' : List Ev) (x : PSt),x.run t (l ++ l') = (x.run t l).run t l' := by
 intro l
 induction l with
 | nil => intro l' x;rfl
 | cons e l ih => intro l' x;exact ih l' (x.step t e)
def pS (t : List ql4) (K : Nat → List Int) (out : List ql4) (s : List Bool) (p i j : Nat) : List ql4 := (({ out := out,P := [p] } : PSt).run t (dfs K s i j 0).1).out
def sS (K : Nat → List Int) (s : List Bool) (i j : Nat) : List Bool := (dfs K s i j 0).2.1
variable {K : Nat → List Int} {t : List ql4}
theorem qmV (out : List ql4) (p : Nat) (k : Int) : (qmM out p k).length = out.length := by unfold qmM;exact List.length_set ..
theorem zQX : ∀ (s : List Bool) (i j c : Nat),∀ c',(dfs K s i j c).2.1 = (dfs K s i j c').2.1 ∧ ∀ x : PSt,x.run t (dfs K s i j c).1 = x.run t (dfs K s i j c').1 := by
 refine qtP (K := K) ?_ ?_ ?_
 ·intro s i j c h c';rw [qpD h,qpD h];exact ⟨rfl,fun x => rfl⟩
 ·intro s i j c h hk ih c';rw [qpG h hk,qpG h hk];exact ih c'
 ·intro s i j c h hk i1 i2 c'
  rw [qr0 h hk,qr0 h hk]
  dsimp only
  obtain ⟨a1,a2⟩ := i1 (c' + 1)
  rw [← a1]
  obtain ⟨b1,b2⟩ := i2 (dfs K (s.set ((K i).getD j 0).toNat true) ((K i).getD j 0).toNat 0 (c' + 1)).2.2
  refine ⟨b1,fun x => ?_⟩
  show ((x.step t _).run t _) = ((x.step t _).run t _)
  rw [qrV,qrV]
  have e : x.step t (((K i).getD j 0).toNat,(i : Int),c,false) = x.step t (((K i).getD j 0).toNat,(i : Int),c',false) := rfl
  rw [e,a2,b2]
theorem zE6 : ∀ (s : List Bool) (i j c : Nat),∀ (out : List ql4) (p : Nat) (P : List Nat),
  ({ out := out,P := p :: P } : PSt).run t (dfs K s i j c).1 = { out := (({ out := out,P := [p] } : PSt).run t (dfs K s i j c).1).out,P := P } := by
 refine qtP (K := K) ?_ ?_ ?_
 ·intro s i j c h out p P;rw [qpD h];rfl
 ·intro s i j c h hk ih out p P;rw [qpG h hk];exact ih out p P
 ·intro s i j c h hk i1 i2 out p P
  rw [qr0 h hk]
  dsimp only
  have e : ∀ Q,({ out := out,P := p :: Q } : PSt).step t (((K i).getD j 0).toNat,(i : Int),c,false) =
   { out := qmM out p out.length ++ [mkN (t.getD ((K i).getD j 0).toNat ql2.dflt) p],P := out.length :: p :: Q } := fun Q => rfl
  show PSt.run t (PSt.step t _ _) _ = { out := (PSt.run t (PSt.step t _ _) _).out,P := P }
  rw [e,e,qrV,qrV,i1 _ out.length (p :: P),i1 _ out.length [p],i2 _ p P]
theorem zH5 {out s p i j} (h : ¬ j < (K i).length) : pS t K out s p i j = out ∧ sS K s i j = s := by
 unfold pS sS;rw [qpD h];exact ⟨rfl,rfl⟩
theorem zHZ {out s p i j} (h : j < (K i).length) (hk : okK s ((K i).getD j 0) = false) : pS t K out s p i j = pS t K out s p i (j + 1) ∧ sS K s i j = sS K s i (j + 1) := by
 unfold pS sS;rw [qpG h hk];exact ⟨rfl,rfl⟩
def qwO (t : List ql4) (K : Nat → List Int) (out : List ql4) (s : List Bool) (k : Nat) (up : Int) : List ql4 := pS t K (out ++ [mkN (t.getD k ql2.dflt) up]) (s.set k true) out.length k 0
def zFN (K : Nat → List Int) (s : List Bool) (k : Nat) : List Bool := sS K (s.set k true) k 0
theorem zNP {out s p i j} (h : j < (K i).length) (hk : okK s ((K i).getD j 0) = true) :
    pS t K out s p i j = pS t K (qwO t K (qmM out p out.length) s ((K i).getD j 0).toNat p) (zFN K s ((K i).getD j 0).toNat) p i (j + 1) ∧ sS K s i j = sS K (zFN K s ((K i).getD j 0).toNat) i (j + 1) := by
  have a := fun c => zQX (t := t) (K := K) (s.set ((K i).getD j 0).toNat true) ((K i).getD j 0).toNat 0 c 0
  unfold pS sS qwO zFN pS sS
  rw [qr0 h hk]
  dsimp only
  rw [(a 1).1]
  have b := fun c => zQX (t := t) (K := K) (dfs K (s.set ((K i).getD j 0).toNat true) ((K i).getD j 0).toNat 0 0).2.1 i (j + 1) c 0
  refine ⟨?_,(b _).1⟩
  show (PSt.run t (PSt.step t _ _) _).out = _
  have e : ({ out := out,P := [p] } : PSt).step t (((K i).getD j 0).toNat,(i : Int),0,false) =
      { out := qmM out p out.length ++ [mkN (t.getD ((K i).getD j 0).toNat ql2.dflt) p],P := out.length :: [p] } := rfl
  rw [e,qrV,zE6,(b _).2,(a 1).2,qmV]
theorem zQV : ∀ (s : List Bool) (i j c : Nat),∀ (out : List ql4) (p : Nat),
  out.length ≤ (({ out := out,P := [p] } : PSt).run t (dfs K s i j c).1).out.length ∧ (({ out := out,P := [p] } : PSt).run t (dfs K s i j c).1).out.length + unseen (dfs K s i j c).2.1 = out.length + unseen s ∧
   (∀ q,q < out.length → q ≠ p → (({ out := out,P := [p] } : PSt).run t (dfs K s i j c).1).out.getD q ql2.dflt = out.getD q ql2.dflt) ∧ (dfs K s i j c).2.1.length = s.length := by
 refine qtP (K := K) ?_ ?_ ?_
 ·intro s i j c h out p;rw [qpD h];exact ⟨Nat.le_refl _,rfl,fun q _ _ => rfl,rfl⟩
 ·intro s i j c h hk ih out p;rw [qpG h hk];exact ih out p
 ·intro s i j c h hk i1 i2 out p
  rw [qr0 h hk]
  dsimp only
  have e : ({ out := out,P := [p] } : PSt).step t (((K i).getD j 0).toNat,(i : Int),c,false) =
   { out := qmM out p out.length ++ [mkN (t.getD ((K i).getD j 0).toNat ql2.dflt) p],P := out.length :: [p] } := rfl
  have er : ∀ l,({ out := out,P := [p] } : PSt).run t ((((K i).getD j 0).toNat,(i : Int),c,false) :: l) =
   ({ out := qmM out p out.length ++ [mkN (t.getD ((K i).getD j 0).toNat ql2.dflt) p],P := out.length :: [p] } : PSt).run t l := fun l => by rw [← e];rfl
  have er2 : ∀ l1 l2 c1,l1 = (dfs K (s.set ((K i).getD j 0).toNat true) ((K i).getD j 0).toNat 0 c1).1 → (({ out := out,P := [p] } : PSt).run t ((((K i).getD j 0).toNat,(i : Int),c,false) :: (l1 ++ l2))).out =
   (({ out := (({ out := qmM out p out.length ++ [mkN (t.getD ((K i).getD j 0).toNat ql2.dflt) p],P := [out.length] } : PSt).run t l1).out,P := [p] } : PSt).run t l2).out := fun l1 l2 c1 hl => by
   rw [er,qrV,hl,zE6]
  rw [er2 _ _ _ rfl]
  have hl : (qmM out p out.length ++ [mkN (t.getD ((K i).getD j 0).toNat ql2.dflt) p]).length = out.length + 1 := by rw [List.length_append,qmV];rfl
  have hu := qn5 (qnL hk).2.2
  obtain ⟨a1,a2,a3,a4⟩ := i1 (qmM out p out.length ++ [mkN (t.getD ((K i).getD j 0).toNat ql2.dflt) p]) out.length
  rw [hl] at a1 a2 a3
  generalize (({ out := qmM out p out.length ++ [mkN (t.getD ((K i).getD j 0).toNat ql2.dflt) p],P := [out.length] } : PSt).run t (dfs K (s.set ((K i).getD j 0).toNat true) ((K i).getD j 0).toNat 0 (c + 1)).1).out = y at *
  obtain ⟨b1,b2,b3,b4⟩ := i2 y p
  refine ⟨by omega,by omega,fun q hq hp => ?_,?_⟩
  ·rw [b3 q (by omega) hp,a3 q (by omega) (by omega)]
   unfold qmM
   rw [List.getD_eq_getElem?_getD,List.getElem?_append_left (by rw [List.length_set];exact hq),List.getElem?_set,if_neg (fun h => hp h.symm),List.getD_eq_getElem?_getD]
  ·rw [b4,a4,List.length_set]
theorem qy3 (out : List ql4) (s : List Bool) (k : Nat) (up : Int) : out.length + 1 ≤ (qwO t K out s k up).length ∧ (qwO t K out s k up).length + unseen (zFN K s k) = out.length + 1 + unseen (s.set k true) ∧
  (∀ q,q < out.length → (qwO t K out s k up).getD q ql2.dflt = out.getD q ql2.dflt) ∧ (zFN K s k).length = s.length := by
 obtain ⟨h1,h2,h3,h4⟩ := zQV (t := t) (K := K) (s.set k true) k 0 0 (out ++ [mkN (t.getD k ql2.dflt) up]) out.length
 rw [List.length_append,List.length_singleton] at h1 h2 h3
 refine ⟨h1,h2,fun q hq => ?_,by rw [List.length_set] at h4;exact h4⟩
 show (PSt.run t _ _).out.getD q _ = _
 rw [h3 q (by omega) (by omega),List.getD_eq_getElem?_getD,List.getElem?_append_left hq,List.getD_eq_getElem?_getD]
end Go.Vc

namespace Go.Vc
open Go.Proofs
set_option maxRecDepth 10000
theorem take_snoc {α : Type} (l : List α) (i : Nat) (d : α) (h : i < l.length) : l.take (i + 1) = l.take i ++ [l.getD i d] := by
 rw [List.take_succ_eq_append_getElem h];simp [List.getD,List.getElem?_eq_getElem h]
theorem zEN {α : Type} (p : α → Bool) (l : List α) (i : Nat) (d : α) (h : i < l.length) : (l.take (i + 1)).all p = ((l.take i).all p && p (l.getD i d)) := by
 rw [take_snoc l i d h];simp
theorem quG {α : Type} {p : α → Bool} {l : List α} {i : Nat} {d : α} (h : i < l.length) (hp : p (l.getD i d) = false) : l.all p = false := by
 rw [List.all_eq_false]
 refine ⟨l.getD i d,?_,by rw [hp];simp⟩
 simp [List.getD,List.getElem?_eq_getElem h]
abbrev qpC := qm9.T
def qtK (l : List qpC) : Bool := decide (l.length ≤ 14) && l.all fun a => decide (a.1.length ≤ 40) && decide (a.2.length ≤ 150)
instance f33 (l : List qpC) : Fn BB 39 [.rd qm9 l] True (.bool (qtK l)) := by
 refine Fn.intro (N := 25) [0,2,4,7,8,9,10,11,23] [] Try.call39 Try.func39 rfl rfl (by kernel_rfl) (fun hpre => ?_)
 repeat' ((conv => whnf);first|(with_reducible first|rfl|exact qmF|exact qmE)|exact True.intro|intro _|refine WA ?_ ?_|refine WF ?_|refine W1 rfl ?_ ?_|refine W2 rfl ?_ ?_|refine W3 rfl ?_ ?_|refine W4 ?_ ?_|refine W5 rfl ?_ ?_|refine W6 ?_ ?_|refine WN ?_|refine X1 (W1 rfl ?_ ?_)|refine X1 (W2 rfl ?_ ?_)|refine X2 (W7 rfl ?_ ?_)|refine X3 (W7 rfl ?_ ?_)|refine X4 (W7 rfl ?_ ?_)|refine X5 (W7 rfl ?_ ?_))
 all_goals (try (conv => whnf))
 ·simp only [qtK,decide_eq_true_eq] at *
  rw [decide_eq_false (by omega)];rfl
 ·refine LoopStop.mk (α := Nat) (fun i => [(10,.int .i64 i)]) (fun _ => []) 0 (fun i => i ≤ l.length ∧ (l.take i).all (fun a => decide (a.1.length ≤ 40) && decide (a.2.length ≤ 150)) = true) (fun i => l.length - i) 0 (by simp) ?_ (fun i hi => ?_)
  ·repeat' ((conv => whnf);first|(with_reducible first|rfl|exact qmF|exact qmE)|exact True.intro|intro _|refine WA ?_ ?_|refine WF ?_|refine W1 rfl ?_ ?_|refine W2 rfl ?_ ?_|refine W3 rfl ?_ ?_|refine W4 ?_ ?_|refine W5 rfl ?_ ?_|refine W6 ?_ ?_|refine WN ?_|refine X1 (W1 rfl ?_ ?_)|refine X1 (W2 rfl ?_ ?_)|refine X2 (W7 rfl ?_ ?_)|refine X3 (W7 rfl ?_ ?_)|refine X4 (W7 rfl ?_ ?_)|refine X5 (W7 rfl ?_ ?_))
   all_goals (try (conv => whnf))
   all_goals (try rfl)
  ·obtain ⟨hi,ha⟩ := hi
   repeat' ((conv => whnf);first|(with_reducible first|rfl|exact qmF|exact qmE)|exact True.intro|intro _|refine WA ?_ ?_|refine WF ?_|refine W1 rfl ?_ ?_|refine W2 rfl ?_ ?_|refine W3 rfl ?_ ?_|refine W4 ?_ ?_|refine W5 rfl ?_ ?_|refine W6 ?_ ?_|refine WN ?_|refine X1 (W1 rfl ?_ ?_)|refine X1 (W2 rfl ?_ ?_)|refine X2 (W7 rfl ?_ ?_)|refine X3 (W7 rfl ?_ ?_)|refine X4 (W7 rfl ?_ ?_)|refine X5 (W7 rfl ?_ ?_))
   all_goals (try (conv => whnf))
   all_goals (try first|exact obA|refine Ob.mk ?_)
   all_goals (try simp only [ZA,ZB,ZC,ZD,ZE,ZF,ZG,ZH,ZI,ZJ,ZK,ZL,ZM,ZN,ZO,Int.toNat_natCast,UInt8.ofNat_toNat,cast_eq] at *)
   ·have h : i < l.length := by omega
    rw [qtK,quG h (d := qm9.dflt)]
    ·simp
    ·simp_all;omega
   ·have h : i < l.length := by omega
    refine Rnd.mk ⟨i + 1,?_,?_,?_⟩
    ·refine ⟨by omega,?_⟩
     rw [zEN _ l i qm9.dflt h,ha]
     simp_all
     omega
    ·omega
    ·all_goals exact vcA
   ·have : i = l.length := by omega
    subst this
    rw [List.take_length] at ha
    rw [qtK,ha,decide_eq_true (by omega)];rfl
def zFF (n : ql4) : Bool := decide ((n.2.2.1.length : Int) ≤ 40) && decide ((n.2.2.2.2.1.length : Int) ≤ 300) && decide ((n.kids.length : Int) ≤ 60) && qtK n.2.2.2.1
instance f9 (k s : Int) (nm : List UInt8) (at_ : List qpC) (d : List UInt8) (up : Int) (kids : List Int) :
  Fn BB 22 [.agg [.int .i64 k,.int .i64 s,.str nm,.rd qm9 at_,.str d,.int .i64 up,.rd qm1 kids]] True (.bool (zFF (k,s,nm,at_,d,up,kids))) := by
 refine Fn.intro (N := 24) [0,1,2] [] Try.call22 Try.func22 rfl rfl (by kernel_rfl) (fun hpre => ?_)
 all_goals exact vcA
def qv4 (l : List ql4) (most : Int) : Bool := decide (l.length ≤ most) && l.all zFF
instance f8 (l : List ql4) (most : Int) : Fn BB 6 [.agg [.rd ql2 l],.int .i64 most] True (.bool (qv4 l most)) := by
 refine Fn.intro (N := 23) [0,1,2,4,6,11,13,14,15,16,21] [] Try.call6 Try.func6 rfl rfl (by kernel_rfl) (fun hpre => ?_)
 repeat' ((conv => whnf);first|(with_reducible first|rfl|exact qmF|exact qmE)|exact True.intro|intro _|refine WA ?_ ?_|refine WF ?_|refine W1 rfl ?_ ?_|refine W2 rfl ?_ ?_|refine W3 rfl ?_ ?_|refine W4 ?_ ?_|refine W5 rfl ?_ ?_|refine W6 ?_ ?_|refine WN ?_|refine X1 (W1 rfl ?_ ?_)|refine X1 (W2 rfl ?_ ?_)|refine X2 (W7 rfl ?_ ?_)|refine X3 (W7 rfl ?_ ?_)|refine X4 (W7 rfl ?_ ?_)|refine X5 (W7 rfl ?_ ?_))
 all_goals (try (conv => whnf))
 ·simp only [qv4,decide_eq_true_eq] at *
  rw [decide_eq_false (by omega)];rfl
 ·refine LoopStop.mk (α := Nat) (fun i => [(15,.int .i64 i)]) (fun _ => []) 20 (fun i => i ≤ l.length ∧ (l.take i).all zFF = true) (fun i => l.length - i) 0 (by simp) ?_ (fun i hi => ?_)
  ·repeat' ((conv => whnf);first|(with_reducible first|rfl|exact qmF|exact qmE)|exact True.intro|intro _|refine WA ?_ ?_|refine WF ?_|refine W1 rfl ?_ ?_|refine W2 rfl ?_ ?_|refine W3 rfl ?_ ?_|refine W4 ?_ ?_|refine W5 rfl ?_ ?_|refine W6 ?_ ?_|refine WN ?_|refine X1 (W1 rfl ?_ ?_)|refine X1 (W2 rfl ?_ ?_)|refine X2 (W7 rfl ?_ ?_)|refine X3 (W7 rfl ?_ ?_)|refine X4 (W7 rfl ?_ ?_)|refine X5 (W7 rfl ?_ ?_))
   all_goals (try (conv => whnf))
   all_goals (try rfl)
  ·obtain ⟨hi,ha⟩ := hi
   repeat' ((conv => whnf);first|(with_reducible first|rfl|exact qmF|exact qmE)|exact True.intro|intro _|refine WA ?_ ?_|refine WF ?_|refine W1 rfl ?_ ?_|refine W2 rfl ?_ ?_|refine W3 rfl ?_ ?_|refine W4 ?_ ?_|refine W5 rfl ?_ ?_|refine W6 ?_ ?_|refine WN ?_|refine X1 (W1 rfl ?_ ?_)|refine X1 (W2 rfl ?_ ?_)|refine X2 (W7 rfl ?_ ?_)|refine X3 (W7 rfl ?_ ?_)|refine X4 (W7 rfl ?_ ?_)|refine X5 (W7 rfl ?_ ?_))
   all_goals (try (conv => whnf))
   all_goals (try first|exact obA|refine Ob.mk ?_)
   all_goals (try simp only [ZA,ZB,ZC,ZD,ZE,ZF,ZG,ZH,ZI,ZJ,ZK,ZL,ZM,ZN,ZO,Int.toNat_natCast,UInt8.ofNat_toNat,cast_eq] at *)
   ·have h : i < l.length := by omega
    rw [qv4,quG h (d := ql2.dflt)]
    ·simp
    ·simp_all
   ·have h : i < l.length := by omega
    refine Rnd.mk ⟨i + 1,?_,?_,?_⟩
    ·refine ⟨by omega,?_⟩
     rw [zEN _ l i ql2.dflt h,ha]
     simp_all
    ·omega
    ·all_goals exact vcA
   ·have : i = l.length := by omega
    subst this
    rw [List.take_length] at ha
    rw [qv4,ha,decide_eq_true (by omega)];rfl
end Go.Vc

namespace Go.Vc
open Go.Proofs
set_option maxRecDepth 10000
instance f14 (l : List Int) : FnM BB 45 [.rd qm1 l] [] (l.length ≤ 100000) (.own 0) [(0,.own qm1 l)] := by
 refine FnM.intro (N := 8) [0,2,4] [] 1 Try.call45 Try.func45 rfl rfl (by kernel_rfl) (fun hpre => ?_)
 repeat' ((conv => whnf);first|(with_reducible first|rfl|exact qmF|exact qmE)|exact True.intro|intro _|refine WA ?_ ?_|refine WF ?_|refine W1 rfl ?_ ?_|refine W2 rfl ?_ ?_|refine W3 rfl ?_ ?_|refine W4 ?_ ?_|refine W5 rfl ?_ ?_|refine W6 ?_ ?_|refine WN ?_|refine X1 (W1 rfl ?_ ?_)|refine X1 (W2 rfl ?_ ?_)|refine X2 (W7 rfl ?_ ?_)|refine X3 (W7 rfl ?_ ?_)|refine X4 (W7 rfl ?_ ?_)|refine X5 (W7 rfl ?_ ?_))
 all_goals (try (conv => whnf))
 all_goals (try first|exact obA|refine Ob.mk ?_)
 all_goals (try simp_all)
instance f36 (l : List qpC) : FnM BB 40 [.rd qm9 l] [] (l.length ≤ 100000) (.own 0) [(0,.own qm9 l)] := by
 refine FnM.intro (N := 8) [0,2,4] [] 1 Try.call40 Try.func40 rfl rfl (by kernel_rfl) (fun hpre => ?_)
 repeat' ((conv => whnf);first|(with_reducible first|rfl|exact qmF|exact qmE)|exact True.intro|intro _|refine WA ?_ ?_|refine WF ?_|refine W1 rfl ?_ ?_|refine W2 rfl ?_ ?_|refine W3 rfl ?_ ?_|refine W4 ?_ ?_|refine W5 rfl ?_ ?_|refine W6 ?_ ?_|refine WN ?_|refine X1 (W1 rfl ?_ ?_)|refine X1 (W2 rfl ?_ ?_)|refine X2 (W7 rfl ?_ ?_)|refine X3 (W7 rfl ?_ ?_)|refine X4 (W7 rfl ?_ ?_)|refine X5 (W7 rfl ?_ ?_))
 all_goals (try (conv => whnf))
 all_goals (try first|exact obA|refine Ob.mk ?_)
 all_goals (try simp_all)
def qw7 (l : List Int) (w : Int) : Int := if l.contains w then (l.idxOf w : Int) else -1
theorem qz1 {l : List Int} {w : Int} (h : l.contains w = false) : qw7 l w = -1 := by rw [qw7,h];rfl
theorem zK3 (l : List Int) (i : Nat) (w : Int) (h : i < l.length) : (l.take (i+1)).contains w = ((l.take i).contains w || (l.getD i 0 == w)) := by
 rw [take_snoc l i 0 h]
 simp only [List.contains_eq_any_beq,List.any_append,List.any_cons,List.any_nil,Bool.or_false]
 congr 1
 exact Bool.beq_comm
theorem zH9 {l : List Int} {w : Int} {i : Nat} (h : i < l.length) (h1 : (l.take i).contains w = false) (h2 : w = l.getD i 0) : qw7 l w = i := by
 have hc : l.contains w = true := by rw [h2];simp [List.getD,List.getElem?_eq_getElem h]
 rw [qw7,hc,if_pos rfl]
 have e := List.take_append_drop i l
 rw [← e,List.idxOf_append,if_neg (by simpa using h1),List.length_take,Nat.min_eq_left (by omega)]
 have e2 : l.drop i = w :: l.drop (i+1) := by rw [List.drop_eq_getElem_cons h,h2];simp [List.getD,List.getElem?_eq_getElem h]
 rw [e2,List.idxOf_cons_self];simp
instance f41 (l : List Int) (w : Int) : Fn BB 38 [.rd qm1 l,.int .i64 w] True (.int .i64 (qw7 l w)) := by
 refine Fn.intro (N := 19) [0,1,4,5,7,8,9,16] [] Try.call38 Try.func38 rfl rfl (by kernel_rfl) (fun hpre => ?_)
 repeat' ((conv => whnf);first|(with_reducible first|rfl|exact qmF|exact qmE)|exact True.intro|intro _|refine WA ?_ ?_|refine WF ?_|refine W1 rfl ?_ ?_|refine W2 rfl ?_ ?_|refine W3 rfl ?_ ?_|refine W4 ?_ ?_|refine W5 rfl ?_ ?_|refine W6 ?_ ?_|refine WN ?_|refine X1 (W1 rfl ?_ ?_)|refine X1 (W2 rfl ?_ ?_)|refine X2 (W7 rfl ?_ ?_)|refine X3 (W7 rfl ?_ ?_)|refine X4 (W7 rfl ?_ ?_)|refine X5 (W7 rfl ?_ ?_))
 all_goals (try (conv => whnf))
 refine LoopStop.mk (α := Nat) (fun i => [(8,.int .i64 i)]) (fun i => []) 20 (fun i => i ≤ l.length ∧ (l.take i).contains w = false) (fun i => l.length - i) 0 (by simp) ?_ (fun i hi => ?_)
 ·repeat' ((conv => whnf);first|(with_reducible first|rfl|exact qmF|exact qmE)|exact True.intro|intro _|refine WA ?_ ?_|refine WF ?_|refine W1 rfl ?_ ?_|refine W2 rfl ?_ ?_|refine W3 rfl ?_ ?_|refine W4 ?_ ?_|refine W5 rfl ?_ ?_|refine W6 ?_ ?_|refine WN ?_|refine X1 (W1 rfl ?_ ?_)|refine X1 (W2 rfl ?_ ?_)|refine X2 (W7 rfl ?_ ?_)|refine X3 (W7 rfl ?_ ?_)|refine X4 (W7 rfl ?_ ?_)|refine X5 (W7 rfl ?_ ?_))
  all_goals (try (conv => whnf))
  all_goals (try rfl)
 ·obtain ⟨hi,ha⟩ := hi
  repeat' ((conv => whnf);first|(with_reducible first|rfl|exact qmF|exact qmE)|exact True.intro|intro _|refine WA ?_ ?_|refine WF ?_|refine W1 rfl ?_ ?_|refine W2 rfl ?_ ?_|refine W3 rfl ?_ ?_|refine W4 ?_ ?_|refine W5 rfl ?_ ?_|refine W6 ?_ ?_|refine WN ?_|refine X1 (W1 rfl ?_ ?_)|refine X1 (W2 rfl ?_ ?_)|refine X2 (W7 rfl ?_ ?_)|refine X3 (W7 rfl ?_ ?_)|refine X4 (W7 rfl ?_ ?_)|refine X5 (W7 rfl ?_ ?_))
  all_goals (try (conv => whnf))
  all_goals (try first|exact obA|refine Ob.mk ?_)
  all_goals (try simp only [ZA,ZB,ZC,ZD,ZE,ZF,ZG,ZH,ZI,ZJ,ZK,ZL,ZM,ZN,ZO,Int.toNat_natCast,UInt8.ofNat_toNat,cast_eq] at *)
  ·rw [zH9 (i := i) (by omega) (by simpa using ha) (by assumption)]
  ·have h : i < l.length := by omega
   refine Rnd.mk ⟨i + 1,?_,?_,?_⟩
   ·refine ⟨by omega,?_⟩
    rw [zK3 l i w h,Bool.or_eq_false_iff]
    refine ⟨by simpa using ha,beq_eq_false_iff_ne.2 fun e => ?_⟩
    simp_all
   ·omega
   ·all_goals exact vcA
  ·have : i = l.length := by omega
   subst this
   rw [qz1 (by simpa using ha)]
end Go.Vc

namespace Go.Vc
open Go.Proofs
set_option maxRecDepth 10000
abbrev nd (l : List ql4) (i : Int) : ql4 := l.getD i.toNat ql2.dflt
def qnU (l : List ql4) (kid : Int) : Int := if isT l kid && isT l (nd l kid).up then qw7 (nd l (nd l kid).up).kids kid else -1
theorem qnD {l : List ql4} {i : Int} : isT l i = true ↔ 0 ≤ i ∧ i < l.length := by simp [isT]
theorem zCF {a b : Bool} (h : (!a || !b) = true) : (a && b) = false := by cases a <;> cases b <;> simp_all
theorem qrK {a b : Bool} (h : (!a || !b) = false) : a = true ∧ b = true := by cases a <;> cases b <;> simp_all
instance f34 (l : List ql4) (kid : Int) : Fn BB 53 [.agg [.rd ql2 l],.int .i64 kid] True (.int .i64 (qnU l kid)) := by
 refine Fn.intro (N := 33) [0,1,2,4,19] [(1,[1,0,1,1,1,1,1,1,1,1,1,1,3,3,3]),(3,[0,1,0,1,0,1,1,1,3,3,3,0,3,3])] Try.call53 Try.func53 rfl rfl (by kernel_rfl) (fun hpre => ?_)
 repeat' ((conv => whnf);first|(with_reducible first|rfl|exact qmF|exact qmE)|exact True.intro|intro _|refine WA ?_ ?_|refine WF ?_|refine W1 rfl ?_ ?_|refine W2 rfl ?_ ?_|refine W3 rfl ?_ ?_|refine W4 ?_ ?_|refine W5 rfl ?_ ?_|refine W6 ?_ ?_|refine WN ?_|refine X1 (W1 rfl ?_ ?_)|refine X1 (W2 rfl ?_ ?_)|refine X2 (W7 rfl ?_ ?_)|refine X3 (W7 rfl ?_ ?_)|refine X4 (W7 rfl ?_ ?_)|refine X5 (W7 rfl ?_ ?_))
 all_goals (try (conv => whnf))
 all_goals (try first|exact obA|refine Ob.mk ?_)
 ·exact qnD.1 (by simp_all)
 ·rename_i h
  rw [qnU]
  have h := zCF h
  rw [show (isT l kid && isT l (nd l kid).up) = false from h];rfl
 ·exact qnD.1 (qrK ‹_›).1
 ·exact qnD.1 (qrK ‹_›).2
 ·rename_i h
  obtain ⟨h1,h2⟩ := qrK h
  rw [qnU,show isT l (nd l kid).up = true from h2,h1];rfl
def quP : Nat → List ql4 → Int → Int → Bool
 | 0,_,_,_ => false
 | n + 1,l,up,kid => if isT l kid then (if kid = up then true else quP n l up (nd l kid).up) else false
def qxZ (l : List ql4) (up kid : Int) : Bool := isT l up && quP (l.length + 1) l up kid
instance f35 (l : List ql4) (up kid : Int) : Fn BB 42 [.agg [.rd ql2 l],.int .i64 up,.int .i64 kid] (l.length ≤ 100000) (.bool (qxZ l up kid)) := by
 refine Fn.intro (N := 31) [0,1,2,3,6,10,14,15,16,20,23] [] Try.call42 Try.func42 rfl rfl (by kernel_rfl) (fun hpre => ?_)
 repeat' ((conv => whnf);first|(with_reducible first|rfl|exact qmF|exact qmE)|exact True.intro|intro _|refine WA ?_ ?_|refine WF ?_|refine W1 rfl ?_ ?_|refine W2 rfl ?_ ?_|refine W3 rfl ?_ ?_|refine W4 ?_ ?_|refine W5 rfl ?_ ?_|refine W6 ?_ ?_|refine WN ?_|refine X1 (W1 rfl ?_ ?_)|refine X1 (W2 rfl ?_ ?_)|refine X2 (W7 rfl ?_ ?_)|refine X3 (W7 rfl ?_ ?_)|refine X4 (W7 rfl ?_ ?_)|refine X5 (W7 rfl ?_ ?_))
 all_goals (try (conv => whnf))
 all_goals (try first|exact obA|refine Ob.mk ?_)
 ·simp_all [qxZ]
 ·refine LoopStop.mk (α := Nat × Int) (fun x => [(15,.int .i64 x.1),(2,.int .i64 x.2)]) (fun _ => []) 20 (fun x => x.1 ≤ l.length + 1 ∧ quP (l.length + 1 - x.1) l up x.2 = quP (l.length + 1) l up kid) (fun x => l.length + 1 - x.1) (0,kid) (by simp) ?_ (fun x hx => ?_)
  ·repeat' ((conv => whnf);first|(with_reducible first|rfl|exact qmF|exact qmE)|exact True.intro|intro _|refine WA ?_ ?_|refine WF ?_|refine W1 rfl ?_ ?_|refine W2 rfl ?_ ?_|refine W3 rfl ?_ ?_|refine W4 ?_ ?_|refine W5 rfl ?_ ?_|refine W6 ?_ ?_|refine WN ?_|refine X1 (W1 rfl ?_ ?_)|refine X1 (W2 rfl ?_ ?_)|refine X2 (W7 rfl ?_ ?_)|refine X3 (W7 rfl ?_ ?_)|refine X4 (W7 rfl ?_ ?_)|refine X5 (W7 rfl ?_ ?_))
   all_goals (try (conv => whnf))
   all_goals (try rfl)
  ·obtain ⟨i,k⟩ := x
   obtain ⟨hi,ha⟩ := hx
   have hstep : i < l.length + 1 → quP (l.length + 1 - i) l up k = if isT l k then (if k = up then true else quP (l.length + 1 - (i + 1)) l up (nd l k).up) else false := by
    intro h
    rw [show l.length + 1 - i = (l.length + 1 - (i + 1)) + 1 by omega];rfl
   dsimp only at hi ha
   have hg : qxZ l up kid = (isT l up && quP (l.length + 1 - i) l up k) := by rw [qxZ,ha]
   repeat' ((conv => whnf);first|(with_reducible first|rfl|exact qmF|exact qmE)|exact True.intro|intro _|refine WA ?_ ?_|refine WF ?_|refine W1 rfl ?_ ?_|refine W2 rfl ?_ ?_|refine W3 rfl ?_ ?_|refine W4 ?_ ?_|refine W5 rfl ?_ ?_|refine W6 ?_ ?_|refine WN ?_|refine X1 (W1 rfl ?_ ?_)|refine X1 (W2 rfl ?_ ?_)|refine X2 (W7 rfl ?_ ?_)|refine X3 (W7 rfl ?_ ?_)|refine X4 (W7 rfl ?_ ?_)|refine X5 (W7 rfl ?_ ?_))
   all_goals (try (conv => whnf))
   all_goals (try first|exact obA|refine Ob.mk ?_)
   all_goals (simp only [decide_eq_true_eq,decide_eq_false_iff_not,beq_iff_eq,beq_eq_false_iff_ne,Bool.not_eq_true',Bool.not_eq_false'] at *)
   ·rw [hg,hstep (by omega)];simp_all
   ·rw [hg,hstep (by omega)];simp_all
   ·exact qnD.1 ‹_›
   ·refine Rnd.mk ⟨(i + 1,(nd l k).up),?_,?_,?_⟩
    ·refine ⟨by omega,?_⟩
     rw [← ha,hstep (by omega)]
     simp_all
    ·simp only [];omega
    ·all_goals exact vcA
   ·have : i = l.length + 1 := by omega
    subst this
    rw [hg]
    simp [quP]
theorem qrA {α : Type} {a b : List α} {i : Nat} {d : α} (h : i < a.length) (hl : a.length = b.length) (ht : a.take i = b.take i) (he : a.getD i d = b.getD i d) : a.take (i + 1) = b.take (i + 1) := by
 rw [take_snoc a i d h,take_snoc b i d (by omega),ht,he]
instance f54 (a b : List qpC) : Fn BB 51 [.rd qm9 a,.rd qm9 b] True (.bool (decide (a = b))) := by
 refine Fn.intro (N := 26) [0,1,4,5,10,14,25] [(6,[0,0,1,1,0,0,1,1,3])] Try.call51 Try.func51 rfl rfl (by kernel_rfl) (fun hpre => ?_)
 repeat' ((conv => whnf);first|(with_reducible first|rfl|exact qmF|exact qmE)|exact True.intro|intro _|refine WA ?_ ?_|refine WF ?_|refine W1 rfl ?_ ?_|refine W2 rfl ?_ ?_|refine W3 rfl ?_ ?_|refine W4 ?_ ?_|refine W5 rfl ?_ ?_|refine W6 ?_ ?_|refine WN ?_|refine X1 (W1 rfl ?_ ?_)|refine X1 (W2 rfl ?_ ?_)|refine X2 (W7 rfl ?_ ?_)|refine X3 (W7 rfl ?_ ?_)|refine X4 (W7 rfl ?_ ?_)|refine X5 (W7 rfl ?_ ?_))
 all_goals (try (conv => whnf))
 ·refine (decide_eq_false fun e => ?_).symm
  subst e;simp_all
 ·refine LoopStop.mk (α := Nat) (fun i => [(5,.int .i64 i)]) (fun _ => []) 20 (fun i => i ≤ a.length ∧ a.take i = b.take i) (fun i => a.length - i) 0 (by simp) ?_ (fun i hi => ?_)
  ·repeat' ((conv => whnf);first|(with_reducible first|rfl|exact qmF|exact qmE)|exact True.intro|intro _|refine WA ?_ ?_|refine WF ?_|refine W1 rfl ?_ ?_|refine W2 rfl ?_ ?_|refine W3 rfl ?_ ?_|refine W4 ?_ ?_|refine W5 rfl ?_ ?_|refine W6 ?_ ?_|refine WN ?_|refine X1 (W1 rfl ?_ ?_)|refine X1 (W2 rfl ?_ ?_)|refine X2 (W7 rfl ?_ ?_)|refine X3 (W7 rfl ?_ ?_)|refine X4 (W7 rfl ?_ ?_)|refine X5 (W7 rfl ?_ ?_))
   all_goals (try (conv => whnf))
   all_goals (try rfl)
  ·obtain ⟨hi,ha⟩ := hi
   repeat' ((conv => whnf);first|(with_reducible first|rfl|exact qmF|exact qmE)|exact True.intro|intro _|refine WA ?_ ?_|refine WF ?_|refine W1 rfl ?_ ?_|refine W2 rfl ?_ ?_|refine W3 rfl ?_ ?_|refine W4 ?_ ?_|refine W5 rfl ?_ ?_|refine W6 ?_ ?_|refine WN ?_|refine X1 (W1 rfl ?_ ?_)|refine X1 (W2 rfl ?_ ?_)|refine X2 (W7 rfl ?_ ?_)|refine X3 (W7 rfl ?_ ?_)|refine X4 (W7 rfl ?_ ?_)|refine X5 (W7 rfl ?_ ?_))
   all_goals (try (conv => whnf))
   all_goals (try first|exact obA|refine Ob.mk ?_)
   all_goals (simp only [decide_eq_true_eq,decide_eq_false_iff_not,bne_eq_false_iff_eq,Bool.not_eq_true',Bool.not_eq_false',Bool.and_true] at *)
   ·refine (decide_eq_false fun e => ?_).symm
    subst e;simp_all
   ·rename_i h
    simp only [Bool.and_eq_true,beq_iff_eq] at h
    have hil : i < a.length := by omega
    refine Rnd.mk ⟨i + 1,?_,?_,?_⟩
    ·exact ⟨by omega,qrA (d := qm9.dflt) hil (by omega) ha (Prod.ext h.1 h.2)⟩
    ·omega
    ·all_goals exact vcA
   ·have : i = a.length := by omega
    subst this
    refine (decide_eq_true ?_).symm
    rw [List.take_length,List.take_of_length_le (by omega)] at ha
    exact ha
end Go.Vc

namespace Go.Vc
open Go.Proofs
set_option maxRecDepth 10000
noncomputable def eqB {α : Type} (a b : α) : Bool := @decide (a = b) (Classical.propDecidable _)
theorem qu7 {α : Type} {a b : α} (h : a = b) : true = eqB a b := by unfold eqB;simp [h]
theorem qoB {α : Type} {a b : α} (h : a ≠ b) : false = eqB a b := by unfold eqB;simp [h]
theorem qyC {α : Type} {a b : α} : eqB a b = true ↔ a = b := by unfold eqB;simp
theorem zNE {α : Type} {a b : α} : eqB a b = false ↔ a ≠ b := by unfold eqB;simp
end Go.Vc

namespace Go.Vc
open Go.Proofs
set_option maxRecDepth 10000
def qmZ (l : List ql4) : Bool := decide (l.length ≤ 1000) && l.all fun n => decide (n.2.2.2.1.length ≤ 1000) && decide (n.kids.length ≤ 1000)
end Go.Vc

/-
 DERIVED: THE SHELF's CONTRACTS AT THIS DUMP,IN PLAIN WORDS (tools/lay-plain.mjs out of 'TryShelf.lean',which tools/lay-shelf.mjs wrote): THE SAME DECLARATIONS UNDER THE SAME NAMES: 'import', 'namespace', 'open', 'def', 'theorem' AND NOTHING ELSE: no command of the shelf's: FOR A HAND-IN. Each laying: the table of numbers ('.._ren') and one theorem,a field a fact of the dump's own or the kernel's comparison;each contract: ONE APPLICATION.
-/
namespace Go.Proofs
open Go.Shelf
def Try.laysNm223_ren : Go.Shelf.Ren := ⟨fun | 23 => 54 | n => n,fun | 22 => 30 | 3 => 3 | 4 => 4 | 0 => 0 | n => n,fun | n => n⟩
theorem Try.laysNm223 : Go.Proofs.Lays2.n23 Try.prog Try.laysNm223_ren := {
  mixed := by kernel_rfl
  f23 := Try.func54.trans (congrArg some (by kernel_rfl))
  t0 := Try.underlying0
  a0 := Try.isAgg0
  z0 := Try.sizeOf0
  v0 := Try.zeroValue0
  t3 := Try.underlying3
  a3 := Try.isAgg3
  z3 := Try.sizeOf3
  v3 := Try.zeroValue3
  t4 := Try.underlying4
  a4 := Try.isAgg4
  z4 := Try.sizeOf4
  v4 := Try.zeroValue4
  t22 := Try.underlying30
  a22 := Try.isAgg30
  z22 := Try.sizeOf30
  v22 := Try.zeroValue30
  i3 := by kernel_rfl }
open Go.RowKit Go.Lib Go.Sort in
theorem Try.slices_Delete_int_cells (b off n c i j : Nat) (zs : List Int) (w : World) (hz : n ≤ zs.length) (hcap : n ≤ c) (hm : c ≤ 9223372036854775807) (hij : i ≤ j) (hj : j ≤ n) (hc : ∀ j,j < zs.length → w.cell? ⟨b,off + j,none⟩ = some (.int .i64 (zs.getD j 0))) (hf : ∀ j,j < n → w.frozen? ⟨b,off + j,none⟩ = false) :
  Calls Try.prog 54 #[.slice (some ⟨b,off,none⟩) n c,.int .i64 i,.int .i64 j] w fun e w' => e = .returned (.slice (some ⟨b,off,none⟩) (n - (j - i)) c) ∧ ∃ q,w' = (w.drewN q).setCells b off (((zs.take n).take i ++ (zs.take n).drop j ++ List.replicate (j - i) 0).map (Value.int .i64)) := Any.slices_Delete_int_cells Try.laysNm223 b off n c i j zs w hz hcap hm hij hj hc hf
open Go.RowKit Go.Lib in
theorem Try.slices_Delete_int_empty (a : Option Addr) (c : Nat) (w : World) :
  Calls Try.prog 54 #[.slice a 0 c,.int .i64 0,.int .i64 0] w fun e w' => e = .returned (.slice a 0 c) ∧ w' = w := Any.slices_Delete_int_empty Try.laysNm223 a c w
def Try.laysNm221_ren : Go.Shelf.Ren := ⟨fun | 21 => 44 | 27 => 55 | 28 => 56 | 35 => 58 | 39 => 59 | n => n,fun | 22 => 30 | 3 => 3 | 4 => 4 | 0 => 0 | n => n,fun | n => n⟩
theorem Try.laysNm221 : Go.Proofs.Lays2.n21 Try.prog Try.laysNm221_ren := {
  mixed := by kernel_rfl
  f21 := Try.func44.trans (congrArg some (by kernel_rfl))
  f27 := Try.func55.trans (congrArg some (by kernel_rfl))
  f28 := Try.func56.trans (congrArg some (by kernel_rfl))
  f35 := Try.func58.trans (congrArg some (by kernel_rfl))
  f39 := Try.func59.trans (congrArg some (by kernel_rfl))
  t0 := Try.underlying0
  a0 := Try.isAgg0
  z0 := Try.sizeOf0
  v0 := Try.zeroValue0
  t3 := Try.underlying3
  a3 := Try.isAgg3
  z3 := Try.sizeOf3
  v3 := Try.zeroValue3
  t4 := Try.underlying4
  a4 := Try.isAgg4
  z4 := Try.sizeOf4
  v4 := Try.zeroValue4
  t22 := Try.underlying30
  a22 := Try.isAgg30
  z22 := Try.sizeOf30
  v22 := Try.zeroValue30
  i3 := by kernel_rfl }
end Go.Proofs
