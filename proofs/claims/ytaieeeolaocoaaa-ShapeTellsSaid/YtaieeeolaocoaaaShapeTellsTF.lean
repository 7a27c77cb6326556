/- A part of the proof: lemmas and walks that the last text of the claim joins; no condition. -/
import Derived.Test.YtaieeeolaocoaaaShapeTellsVE
import Derived.Laws.Externs
import Derived.Test.YtaieeeolaocoaaaChecked
import Derived.Shelf.Spec.SlicesInsert
import Derived.Shelf.Spec.SlicesInsertGrow
import Derived.Shelf.Slices.Turned
import Derived.Shelf.Slices.Reverse
import Derived.Shelf.Slices.Equal
import Derived.Ground.Names2Prog
import Derived.Shelf.Slices.Clone
import Derived.Shelf.Slices.Delete
import Derived.Shelf.Slices.Cells
import Derived.Shelf.Slices.Empties
import Derived.Shelf.Slices.Empties2
import Derived.Ground.SlgnProg
import Derived.Shelf.SlicesE.Clone
import Derived.Test.YtaieeeolaocoaaaProg
set_option linter.unusedVariables false
set_option linter.unusedSimpArgs false
set_option maxHeartbeats 8000000
namespace Go.Vc
open Go.Proofs
theorem mixed : Try.prog.follows .mixedOrders = true := by kernel_rfl
abbrev qAJ : Ty := .int .i64
abbrev qhX : Ty := .pr qAJ qAJ
abbrev qBK : Ty := .pr .str .str
abbrev qAB : Ty := .pr qAJ (.pr qAJ (.pr .str (.pr (.sl qBK) (.pr .str (.pr qAJ (.sl qAJ))))))
def tyB (t : TypeId) : Option Ty :=
 bif Nat.beq t 3 then some qAJ else bif Nat.beq t 4 then some .bool else bif Nat.beq t 5 then some .byte else bif Nat.beq t 9 then some .str else bif Nat.beq t 59 then some qBK else bif Nat.beq t 40 then some qAB else bif Nat.beq t 82 then some qhX else bif Nat.beq t 71 then some .flt else bif Nat.beq t 30 then some (.sl qAJ) else none
def qlV (t : TypeId) : Bool := Nat.beq t 59
theorem qcX : ∀ t, qlV t = true → Try.prog.stoodInHeld t = false ∧ Try.prog.eqGuardType Try.prog.depth t = false ∧ ((Try.prog.fieldsOf t).toList.all fun f => f.name != "_") = true := by
 intro t h
 obtain rfl := qAF h
 exact ⟨by kernel_rfl,by kernel_rfl,by kernel_rfl⟩
noncomputable abbrev BB : Base := { P := Try.prog,mixed := mixed,G := fun _ => True,mono := fun _ _ _ h => h,ty0 := tyB,eqs := qlV,eqs_ok := qcX }
set_option maxRecDepth 10000
@[simp] theorem qlQ : qAC Try.prog 1 = 8 := rfl
@[simp] theorem qlJ : qAC BB.P 1 = 8 := rfl
@[simp] theorem qlO : qAC Try.prog 2 = 8 := rfl
@[simp] theorem qi7 : qAC BB.P 2 = 8 := rfl
@[simp] theorem bytes3 : qAC Try.prog 3 = 8 := rfl
@[simp] theorem qXH : qAC BB.P 3 = 8 := rfl
@[simp] theorem bytes4 : qAC Try.prog 4 = 1 := rfl
@[simp] theorem qi6 : qAC BB.P 4 = 1 := rfl
@[simp] theorem bytes5 : qAC Try.prog 5 = 1 := rfl
@[simp] theorem qk2 : qAC BB.P 5 = 1 := rfl
@[simp] theorem qlS : qAC Try.prog 6 = 1 := rfl
@[simp] theorem qkL : qAC BB.P 6 = 1 := rfl
@[simp] theorem ql1 : qAC Try.prog 7 = 24 := rfl
@[simp] theorem qjK : qAC BB.P 7 = 24 := rfl
@[simp] theorem qlY : qAC Try.prog 8 = 24 := rfl
@[simp] theorem qjB : qAC BB.P 8 = 24 := rfl
@[simp] theorem bytes9 : qAC Try.prog 9 = 16 := rfl
@[simp] theorem qj9 : qAC BB.P 9 = 16 := rfl
@[simp] theorem qjG : qAC Try.prog 10 = 16 := rfl
@[simp] theorem qhO : qAC BB.P 10 = 16 := rfl
@[simp] theorem qkP : qAC Try.prog 11 = 16 := rfl
@[simp] theorem qf4 : qAC BB.P 11 = 16 := rfl
@[simp] theorem qj8 : qAC Try.prog 12 = 8 := rfl
@[simp] theorem qh5 : qAC BB.P 12 = 8 := rfl
@[simp] theorem qkD : qAC Try.prog 13 = 24 := rfl
@[simp] theorem qgZ : qAC BB.P 13 = 24 := rfl
@[simp] theorem qjC : qAC Try.prog 14 = 24 := rfl
@[simp] theorem qhA : qAC BB.P 14 = 24 := rfl
@[simp] theorem qk5 : qAC Try.prog 15 = 8 := rfl
@[simp] theorem qgE : qAC BB.P 15 = 8 := rfl
@[simp] theorem qkZ : qAC Try.prog 16 = 8 := rfl
@[simp] theorem qgS : qAC BB.P 16 = 8 := rfl
@[simp] theorem qj7 : qAC Try.prog 17 = 8 := rfl
@[simp] theorem qhP : qAC BB.P 17 = 8 := rfl
@[simp] theorem qkS : qAC Try.prog 18 = 8 := rfl
@[simp] theorem qgR : qAC BB.P 18 = 8 := rfl
@[simp] theorem qiX : qAC Try.prog 19 = 8 := rfl
@[simp] theorem qh9 : qAC BB.P 19 = 8 := rfl
@[simp] theorem qjI : qAC Try.prog 20 = 16 := rfl
@[simp] theorem qgF : qAC BB.P 20 = 16 := rfl
@[simp] theorem bytes21 : qAC Try.prog 21 = 4 := rfl
@[simp] theorem qg2 : qAC BB.P 21 = 4 := rfl
@[simp] theorem qlF : qAC Try.prog 22 = 24 := rfl
@[simp] theorem qgX : qAC BB.P 22 = 24 := rfl
@[simp] theorem bytes23 : qAC Try.prog 23 = 24 := rfl
@[simp] theorem qhQ : qAC BB.P 23 = 24 := rfl
@[simp] theorem qkU : qAC Try.prog 24 = 24 := rfl
@[simp] theorem qgD : qAC BB.P 24 = 24 := rfl
@[simp] theorem bytes25 : qAC Try.prog 25 = 8 := rfl
@[simp] theorem qgO : qAC BB.P 25 = 8 := rfl
@[simp] theorem bytes26 : qAC Try.prog 26 = 8 := rfl
@[simp] theorem qhI : qAC BB.P 26 = 8 := rfl
@[simp] theorem bytes27 : qAC Try.prog 27 = 8 := rfl
@[simp] theorem qg9 : qAC BB.P 27 = 8 := rfl
@[simp] theorem bytes28 : qAC Try.prog 28 = 8 := rfl
@[simp] theorem qh4 : qAC BB.P 28 = 8 := rfl
@[simp] theorem qkH : qAC Try.prog 29 = 8 := rfl
@[simp] theorem qhV : qAC BB.P 29 = 8 := rfl
@[simp] theorem bytes30 : qAC Try.prog 30 = 24 := rfl
@[simp] theorem qh6 : qAC BB.P 30 = 24 := rfl
@[simp] theorem qk1 : qAC Try.prog 31 = 8 := rfl
@[simp] theorem qiA : qAC BB.P 31 = 8 := rfl
@[simp] theorem qjR : qAC Try.prog 32 = 8 := rfl
@[simp] theorem qgW : qAC BB.P 32 = 8 := rfl
@[simp] theorem qk9 : qAC Try.prog 33 = 8 := rfl
@[simp] theorem qgC : qAC BB.P 33 = 8 := rfl
@[simp] theorem qkO : qAC Try.prog 34 = 8 := rfl
@[simp] theorem qh2 : qAC BB.P 34 = 8 := rfl
@[simp] theorem qkR : qAC Try.prog 36 = 8 := rfl
@[simp] theorem qgU : qAC BB.P 36 = 8 := rfl
@[simp] theorem qlB : qAC Try.prog 37 = 8 := rfl
@[simp] theorem qgB : qAC BB.P 37 = 8 := rfl
@[simp] theorem qi2 : qAC Try.prog 38 = 24 := rfl
@[simp] theorem qiH : qAC BB.P 38 = 24 := rfl
@[simp] theorem qkT : qAC Try.prog 39 = 104 := rfl
@[simp] theorem qhK : qAC BB.P 39 = 104 := rfl
@[simp] theorem qNO : qAC Try.prog 40 = 104 := rfl
@[simp] theorem qJT : qAC BB.P 40 = 104 := rfl
@[simp] theorem qiK : qAC Try.prog 41 = 8 := rfl
@[simp] theorem qg7 : qAC BB.P 41 = 8 := rfl
@[simp] theorem qlE : qAC Try.prog 42 = 8 := rfl
@[simp] theorem qhJ : qAC BB.P 42 = 8 := rfl
@[simp] theorem qlD : qAC Try.prog 43 = 8 := rfl
@[simp] theorem qh0 : qAC BB.P 43 = 8 := rfl
@[simp] theorem qjZ : qAC Try.prog 44 = 8 := rfl
@[simp] theorem qhW : qAC BB.P 44 = 8 := rfl
@[simp] theorem qjX : qAC Try.prog 45 = 8 := rfl
@[simp] theorem qf3 : qAC BB.P 45 = 8 := rfl
@[simp] theorem qjO : qAC Try.prog 46 = 8 := rfl
@[simp] theorem qgN : qAC BB.P 46 = 8 := rfl
@[simp] theorem qiU : qAC Try.prog 47 = 8 := rfl
@[simp] theorem qg5 : qAC BB.P 47 = 8 := rfl
@[simp] theorem qiR : qAC Try.prog 48 = 8 := rfl
@[simp] theorem qgQ : qAC BB.P 48 = 8 := rfl
@[simp] theorem qk4 : qAC Try.prog 49 = 8 := rfl
@[simp] theorem qf1 : qAC BB.P 49 = 8 := rfl
@[simp] theorem qjJ : qAC Try.prog 50 = 8 := rfl
@[simp] theorem qgK : qAC BB.P 50 = 8 := rfl
@[simp] theorem qjV : qAC Try.prog 51 = 8 := rfl
@[simp] theorem qhZ : qAC BB.P 51 = 8 := rfl
@[simp] theorem qlH : qAC Try.prog 53 = 8 := rfl
@[simp] theorem qh8 : qAC BB.P 53 = 8 := rfl
@[simp] theorem qj2 : qAC Try.prog 54 = 8 := rfl
@[simp] theorem qhD : qAC BB.P 54 = 8 := rfl
@[simp] theorem qkY : qAC Try.prog 55 = 24 := rfl
@[simp] theorem qgY : qAC BB.P 55 = 24 := rfl
@[simp] theorem qiJ : qAC Try.prog 56 = 8 := rfl
@[simp] theorem qh3 : qAC BB.P 56 = 8 := rfl
@[simp] theorem qiQ : qAC Try.prog 57 = 8 := rfl
@[simp] theorem qgV : qAC BB.P 57 = 8 := rfl
@[simp] theorem qjP : qAC Try.prog 58 = 32 := rfl
@[simp] theorem qgL : qAC BB.P 58 = 32 := rfl
@[simp] theorem qM9 : qAC Try.prog 59 = 32 := rfl
@[simp] theorem qJS : qAC BB.P 59 = 32 := rfl
@[simp] theorem qiY : qAC Try.prog 60 = 8 := rfl
@[simp] theorem qhG : qAC BB.P 60 = 8 := rfl
@[simp] theorem qiZ : qAC Try.prog 61 = 8 := rfl
@[simp] theorem qg4 : qAC BB.P 61 = 8 := rfl
@[simp] theorem qkJ : qAC Try.prog 62 = 8 := rfl
@[simp] theorem qgM : qAC BB.P 62 = 8 := rfl
@[simp] theorem qkE : qAC Try.prog 63 = 8 := rfl
@[simp] theorem qiC : qAC BB.P 63 = 8 := rfl
@[simp] theorem qi3 : qAC Try.prog 64 = 8 := rfl
@[simp] theorem qhB : qAC BB.P 64 = 8 := rfl
@[simp] theorem qi9 : qAC Try.prog 65 = 8 := rfl
@[simp] theorem qgA : qAC BB.P 65 = 8 := rfl
@[simp] theorem qiL : qAC Try.prog 66 = 8 := rfl
@[simp] theorem qhN : qAC BB.P 66 = 8 := rfl
@[simp] theorem qk3 : qAC Try.prog 67 = 8 := rfl
@[simp] theorem qhR : qAC BB.P 67 = 8 := rfl
@[simp] theorem qkV : qAC Try.prog 68 = 8 := rfl
@[simp] theorem qg8 : qAC BB.P 68 = 8 := rfl
@[simp] theorem qkG : qAC Try.prog 69 = 8 := rfl
@[simp] theorem qh7 : qAC BB.P 69 = 8 := rfl
@[simp] theorem qkN : qAC Try.prog 70 = 8 := rfl
@[simp] theorem qhS : qAC BB.P 70 = 8 := rfl
@[simp] theorem qjS : qAC Try.prog 71 = 8 := rfl
@[simp] theorem qhH : qAC BB.P 71 = 8 := rfl
@[simp] theorem qj6 : qAC Try.prog 72 = 32 := rfl
@[simp] theorem qf9 : qAC BB.P 72 = 32 := rfl
@[simp] theorem qi1 : qAC Try.prog 73 = 32 := rfl
@[simp] theorem qf7 : qAC BB.P 73 = 32 := rfl
@[simp] theorem qj0 : qAC Try.prog 75 = 8 := rfl
@[simp] theorem qgT : qAC BB.P 75 = 8 := rfl
@[simp] theorem qj5 : qAC Try.prog 76 = 8 := rfl
@[simp] theorem qhM : qAC BB.P 76 = 8 := rfl
@[simp] theorem qk7 : qAC Try.prog 77 = 8 := rfl
@[simp] theorem qiF : qAC BB.P 77 = 8 := rfl
@[simp] theorem qjN : qAC Try.prog 78 = 8 := rfl
@[simp] theorem qgI : qAC BB.P 78 = 8 := rfl
@[simp] theorem qkQ : qAC Try.prog 79 = 8 := rfl
@[simp] theorem qf0 : qAC BB.P 79 = 8 := rfl
@[simp] theorem qi8 : qAC Try.prog 80 = 8 := rfl
@[simp] theorem qgG : qAC BB.P 80 = 8 := rfl
@[simp] theorem qlL : qAC Try.prog 81 = 16 := rfl
@[simp] theorem qg6 : qAC BB.P 81 = 16 := rfl
@[simp] theorem qjL : qAC Try.prog 82 = 16 := rfl
@[simp] theorem qg1 : qAC BB.P 82 = 16 := rfl
@[simp] theorem qlA : qAC Try.prog 83 = 24 := rfl
@[simp] theorem qf8 : qAC BB.P 83 = 24 := rfl
@[simp] theorem qlM : qAC Try.prog 84 = 8 := rfl
@[simp] theorem qhL : qAC BB.P 84 = 8 := rfl
@[simp] theorem qjY : qAC Try.prog 85 = 8 := rfl
@[simp] theorem qiI : qAC BB.P 85 = 8 := rfl
@[simp] theorem qlK : qAC Try.prog 86 = 8 := rfl
@[simp] theorem qhE : qAC BB.P 86 = 8 := rfl
@[simp] theorem qjT : qAC Try.prog 87 = 40 := rfl
@[simp] theorem qf2 : qAC BB.P 87 = 40 := rfl
@[simp] theorem qlC : qAC Try.prog 88 = 40 := rfl
@[simp] theorem qiB : qAC BB.P 88 = 40 := rfl
@[simp] theorem qkM : qAC Try.prog 92 = 8 := rfl
@[simp] theorem qiD : qAC BB.P 92 = 8 := rfl
@[simp] theorem qjA : qAC Try.prog 93 = 4 := rfl
@[simp] theorem qgP : qAC BB.P 93 = 4 := rfl
@[simp] theorem qkI : qAC Try.prog 94 = 1 := rfl
@[simp] theorem qiE : qAC BB.P 94 = 1 := rfl
@[simp] theorem qiO : qAC Try.prog 95 = 1 := rfl
@[simp] theorem qh1 : qAC BB.P 95 = 1 := rfl
@[simp] theorem qjQ : qAC Try.prog 96 = 8 := rfl
@[simp] theorem qf5 : qAC BB.P 96 = 8 := rfl
@[simp] theorem qiW : qAC Try.prog 97 = 8 := rfl
@[simp] theorem qfY : qAC BB.P 97 = 8 := rfl
@[simp] theorem qkB : qAC Try.prog 98 = 4 := rfl
@[simp] theorem qhF : qAC BB.P 98 = 4 := rfl
@[simp] theorem qi0 : qAC Try.prog 99 = 4 := rfl
@[simp] theorem qgH : qAC BB.P 99 = 4 := rfl
@[simp] theorem qfZ : qAC Try.prog 100 = 48 := rfl
@[simp] theorem qeM : qAC BB.P 100 = 48 := rfl
@[simp] theorem qf6 : qAC Try.prog 101 = 48 := rfl
@[simp] theorem qfD : qAC BB.P 101 = 48 := rfl
@[simp] theorem qg3 : qAC Try.prog 102 = 8 := rfl
@[simp] theorem qfP : qAC BB.P 102 = 8 := rfl
theorem qeK (x : UInt8) : 0 ≤ (x.toNat : Int) ∧ (x.toNat : Int) ≤ 255 := by have := x.toNat_lt;omega
theorem obA {p : Prop} (h : p := by first|exact Ob.mk (qeK _)|(refine Ob.mk ?_;first|exact True.intro|assumption|omega|(simp only [ZA,ZB,ZC,ZD,ZE,ZF,ZG,ZH,ZI,ZJ,ZK,ZL,ZM,ZN,ZO,Int.toNat_natCast,UInt8.ofNat_toNat,cast_eq] at *;omega)|(show (_:Int) = _;omega)|(show qSX _ = _;with_unfolding_all rfl)|((first|show (_:Nat) ≤ _|show (_:Nat) ≤ _ ∧ (_:Nat) ≤ _|show (_:Int) ≤ _ ∧ (_:Int) ≤ _ ∧ (_:Int) ≤ _ ∧ (_:Int) ≤ _);(simp <;> omega)))|(show (_:Int) = _;omega)|(show qSX _ = _;with_unfolding_all rfl)|((first|show (_:Nat) ≤ _|show (_:Nat) ≤ _ ∧ (_:Nat) ≤ _|show (_:Int) ≤ _ ∧ (_:Int) ≤ _ ∧ (_:Int) ≤ _ ∧ (_:Int) ≤ _);(simp <;> omega))) : p := h
theorem vcA {p : Prop} (h : p := by (repeat' ((conv => whnf);first|(with_reducible first|rfl|exact qAH|exact qAG)|exact True.intro|intro _|refine WA ?_ ?_|refine WF ?_|refine W1 rfl ?_ ?_|refine W2 rfl ?_ ?_|refine W3 rfl ?_ ?_|refine W4 ?_ ?_|refine W5 rfl ?_ ?_|refine W6 ?_ ?_|refine WN ?_|refine X1 (W1 rfl ?_ ?_)|refine X1 (W2 rfl ?_ ?_)|refine X2 (W7 rfl ?_ ?_)|refine X3 (W7 rfl ?_ ?_)|refine X4 (W7 rfl ?_ ?_)|refine X5 (W7 rfl ?_ ?_)));(all_goals (try (conv => whnf)));(all_goals (try first|exact obA|refine Ob.mk ?_));(all_goals (try rfl))) : p := h
end Go.Vc

namespace Go.Vc
open Go.Proofs
set_option maxRecDepth 10000
abbrev qAD := qAB.T
abbrev qAD.up (n : qAD) : Int := n.2.2.2.2.2.1
abbrev qAD.kids (n : qAD) : List Int := n.2.2.2.2.2.2
def isT (l : List qAD) (i : Int) : Bool := decide (0 ≤ i) && decide (i < l.length)
instance f37 (l : List qAD) (i : Int) : Fn BB 41 [.agg [.rd qAB l],.int .i64 i] True (.bool (isT l i)) := by
 refine Fn.intro (N := 14) [0,1,2,4] [] Try.call41 Try.func41 rfl rfl (by kernel_rfl) (fun hpre => ?_)
 repeat' ((conv => whnf);first|(with_reducible first|rfl|exact qAH|exact qAG)|exact True.intro|intro _|refine WA ?_ ?_|refine WF ?_|refine W1 rfl ?_ ?_|refine W2 rfl ?_ ?_|refine W3 rfl ?_ ?_|refine W4 ?_ ?_|refine W5 rfl ?_ ?_|refine W6 ?_ ?_|refine WN ?_|refine X1 (W1 rfl ?_ ?_)|refine X1 (W2 rfl ?_ ?_)|refine X2 (W7 rfl ?_ ?_)|refine X3 (W7 rfl ?_ ?_)|refine X4 (W7 rfl ?_ ?_)|refine X5 (W7 rfl ?_ ?_))
 all_goals (try (conv => whnf))
 all_goals (simp_all [isT];done)
end Go.Vc

namespace Go.Vc
set_option autoImplicit false
abbrev Ev := Nat × Int × Nat × Bool
def unseen (s : List Bool) : Nat := s.count false
def okK (s : List Bool) (k : Int) : Bool := decide (0 ≤ k) && !(s.getD k.toNat true)
theorem qA5 {s : List Bool} {k : Int} (h : okK s k = true) : 0 ≤ k ∧ k.toNat < s.length ∧ s[k.toNat]? = some false := by
 unfold okK at h
 simp only [Bool.and_eq_true,decide_eq_true_eq,Bool.not_eq_true'] at h
 have hl : k.toNat < s.length := by
  rcases Nat.lt_or_ge k.toNat s.length with q | q
  ·exact q
  ·have := h.2;simp [List.getD,List.getElem?_eq_none q] at this
 refine ⟨h.1,hl,?_⟩
 have := h.2
 rw [List.getD_eq_getElem?_getD,List.getElem?_eq_getElem hl] at this
 rw [List.getElem?_eq_getElem hl]
 simpa using this
theorem qAX {s : List Bool} {k : Nat} (h : s[k]? = some false) : unseen (s.set k true) + 1 = unseen s := by
 unfold unseen
 induction s generalizing k with
 | nil => cases h
 | cons x r ih =>
  cases k with
  | zero => simp at h;subst h;simp
  | succ k =>
   have := ih (k := k) (by simpa using h)
   simp only [List.set_cons_succ,List.count_cons]
   omega
def dfs (K : Nat → List Int) (s : List Bool) (i j c : Nat) : List Ev × List Bool × Nat :=
 if h : j < (K i).length then
  if hk : okK s ((K i).getD j 0) = true then
   let r1 := dfs K (s.set ((K i).getD j 0).toNat true) ((K i).getD j 0).toNat 0 (c + 1)
   if hg : unseen r1.2.1 < unseen s then
    let r2 := dfs K r1.2.1 i (j + 1) r1.2.2
    ((((K i).getD j 0).toNat,(i : Int),c,false) :: (r1.1 ++ r2.1),r2.2.1,r2.2.2)
   else ([],s,c)
  else dfs K s i (j + 1) c
 else ([(i,0,c,true)],s,c + 1)
termination_by (unseen s,(K i).length - j)
decreasing_by
 ·have := qAX (qA5 hk).2.2
  exact Prod.Lex.left _ _ (by omega)
 ·exact Prod.Lex.left _ _ hg
 ·exact Prod.Lex.right _ (by omega)
variable {K : Nat → List Int}
theorem qCV {s : List Bool} {i j c : Nat} (h : ¬ j < (K i).length) : dfs K s i j c = ([(i,0,c,true)],s,c + 1) := by
 rw [dfs,dif_neg h]
theorem qCT {s : List Bool} {i j c : Nat} (h : j < (K i).length) (hk : okK s ((K i).getD j 0) = false) : dfs K s i j c = dfs K s i (j + 1) c := by
 rw [dfs,dif_pos h,dif_neg (by rw [hk];decide)]
theorem qV1 {s : List Bool} {i j c : Nat} (h : j < (K i).length) (hk : okK s ((K i).getD j 0) = true) : dfs K s i j c =
  (let r1 := dfs K (s.set ((K i).getD j 0).toNat true) ((K i).getD j 0).toNat 0 (c + 1)
   if hg : unseen r1.2.1 < unseen s then
    let r2 := dfs K r1.2.1 i (j + 1) r1.2.2
    ((((K i).getD j 0).toNat,(i : Int),c,false) :: (r1.1 ++ r2.1),r2.2.1,r2.2.2)
   else ([],s,c)) := by
 rw [dfs,dif_pos h,dif_pos hk]
theorem qT6 {P : List Bool → Nat → Nat → Nat → Prop}
  (h : ∀ s i j c,(∀ s' i' j' c',(unseen s' < unseen s ∨ (unseen s' = unseen s ∧ (K i').length - j' < (K i).length - j)) → P s' i' j' c') → P s i j c) : ∀ s i j c,P s i j c := by
 have main : ∀ a b s i j c,unseen s = a → (K i).length - j = b → P s i j c := by
  intro a
  induction a using Nat.strongRecOn with
  | ind a iha =>
   intro b
   induction b using Nat.strongRecOn with
   | ind b ihb =>
    intro s i j c ha hb
    refine h s i j c fun s' i' j' c' q => ?_
    rcases q with q | ⟨q1,q2⟩
    ·exact iha (unseen s') (by omega) _ s' i' j' c' rfl rfl
    ·exact ihb _ (by omega) s' i' j' c' (by omega) rfl
 exact fun s i j c => main _ _ s i j c rfl rfl
theorem qXJ : ∀ (s : List Bool) (i j c : Nat),unseen (dfs K s i j c).2.1 ≤ unseen s := by
 refine qT6 (K := K) fun s i j c ih => ?_
 by_cases h : j < (K i).length
 ·cases hk : okK s ((K i).getD j 0) with
  | false => rw [qCT h hk];exact ih s i (j + 1) c (.inr ⟨rfl,by omega⟩)
  | true =>
   rw [qV1 h hk]
   dsimp only
   split
   ·rename_i hg
    have := ih _ i (j + 1) (dfs K (s.set ((K i).getD j 0).toNat true) ((K i).getD j 0).toNat 0 (c + 1)).2.2 (.inl hg)
    exact Nat.le_trans this (Nat.le_of_lt hg)
   ·exact Nat.le_refl _
 ·rw [qCV h];exact Nat.le_refl _
theorem qOY {s : List Bool} {k : Nat} (hk : s[k]? = some false) (c : Nat) : unseen (dfs K (s.set k true) k 0 c).2.1 < unseen s := by
 have h1 := qXJ (K := K) (s.set k true) k 0 c
 have h2 := qAX hk
 omega
theorem qFA {s : List Bool} {i j c : Nat} (h : j < (K i).length) (hk : okK s ((K i).getD j 0) = true) : dfs K s i j c =
    ((((K i).getD j 0).toNat,(i : Int),c,false) :: ((dfs K (s.set ((K i).getD j 0).toNat true) ((K i).getD j 0).toNat 0 (c + 1)).1 ++
      (dfs K (dfs K (s.set ((K i).getD j 0).toNat true) ((K i).getD j 0).toNat 0 (c + 1)).2.1 i (j + 1) (dfs K (s.set ((K i).getD j 0).toNat true) ((K i).getD j 0).toNat 0 (c + 1)).2.2).1),
     (dfs K (dfs K (s.set ((K i).getD j 0).toNat true) ((K i).getD j 0).toNat 0 (c + 1)).2.1 i (j + 1) (dfs K (s.set ((K i).getD j 0).toNat true) ((K i).getD j 0).toNat 0 (c + 1)).2.2).2.1,
     (dfs K (dfs K (s.set ((K i).getD j 0).toNat true) ((K i).getD j 0).toNat 0 (c + 1)).2.1 i (j + 1) (dfs K (s.set ((K i).getD j 0).toNat true) ((K i).getD j 0).toNat 0 (c + 1)).2.2).2.2) := by
  rw [qV1 h hk]
  dsimp only
  rw [dif_pos (qOY (qA5 hk).2.2 (c + 1))]
theorem qFP {P : List Bool → Nat → Nat → Nat → Prop}
  (he : ∀ s i j c,¬ j < (K i).length → P s i j c)
  (hb : ∀ s i j c,j < (K i).length → okK s ((K i).getD j 0) = false → P s i (j + 1) c → P s i j c)
  (ho : ∀ s i j c,j < (K i).length → okK s ((K i).getD j 0) = true → P (s.set ((K i).getD j 0).toNat true) ((K i).getD j 0).toNat 0 (c + 1) →
   (P (dfs K (s.set ((K i).getD j 0).toNat true) ((K i).getD j 0).toNat 0 (c + 1)).2.1 i (j + 1) (dfs K (s.set ((K i).getD j 0).toNat true) ((K i).getD j 0).toNat 0 (c + 1)).2.2) → P s i j c) :
  ∀ s i j c,P s i j c := by
 refine qT6 (K := K) fun s i j c ih => ?_
 by_cases h : j < (K i).length
 ·cases hk : okK s ((K i).getD j 0) with
  | false => exact hb s i j c h hk (ih s i (j + 1) c (.inr ⟨rfl,by omega⟩))
  | true =>
   have h2 := qAX (qA5 hk).2.2
   exact ho s i j c h hk (ih _ _ _ _ (.inl (by omega))) (ih _ _ _ _ (.inl (qOY (qA5 hk).2.2 (c + 1))))
 ·exact he s i j c h
def qH7 (K : Nat → List Int) : List (Nat × Nat) → List Bool → Nat → List Ev
 | [],_,_ => []
 | (i,j) :: rest,s,c => (dfs K s i j c).1 ++ qH7 K rest (dfs K s i j c).2.1 (dfs K s i j c).2.2
theorem qTK {s : List Bool} {i j c : Nat} {rest : List (Nat × Nat)} (h : ¬ j < (K i).length) : qH7 K ((i,j) :: rest) s c = (i,0,c,true) :: qH7 K rest s (c + 1) := by
 rw [qH7,qCV h];rfl
theorem qTW {s : List Bool} {i j c : Nat} {rest : List (Nat × Nat)} (h : j < (K i).length) (hk : okK s ((K i).getD j 0) = false) : qH7 K ((i,j) :: rest) s c = qH7 K ((i,j + 1) :: rest) s c := by
 rw [qH7,qH7,qCT h hk]
theorem qYE {s : List Bool} {i j c : Nat} {rest : List (Nat × Nat)} (h : j < (K i).length) (hk : okK s ((K i).getD j 0) = true) :
  qH7 K ((i,j) :: rest) s c = (((K i).getD j 0).toNat,(i : Int),c,false) :: qH7 K ((((K i).getD j 0).toNat,0) :: (i,j + 1) :: rest) (s.set ((K i).getD j 0).toNat true) (c + 1) := by
 rw [qH7,qFA h hk,qH7,qH7]
 simp only [List.cons_append,List.append_assoc]
def qON (K : Nat → List Int) (n : Nat) : List Ev := if n = 0 then [] else (0, -1,0,false) :: qH7 K [(0,0)] ((List.replicate n false).set 0 true) 1
end Go.Vc

namespace Go.Vc
open Go.Proofs
set_option autoImplicit false
def qbJ (n : qAD) (k : Int) : qAD := (n.1,n.2.1,n.2.2.1,n.2.2.2.1,n.2.2.2.2.1,n.2.2.2.2.2.1,n.2.2.2.2.2.2 ++ [k])
def mkN (n : qAD) (up : Int) : qAD := (n.1,n.2.1,n.2.2.1,n.2.2.2.1,n.2.2.2.2.1,up,[])
def qAU (out : List qAD) (p : Nat) (k : Int) : List qAD := out.set p (qbJ (out.getD p qAB.dflt) k)
structure PSt where
 out : List qAD
 P : List Nat
def PSt.step (t : List qAD) (x : PSt) (e : Ev) : PSt :=
 match e.2.2.2,x.P with
 | true,P => { out := x.out,P := P.tail }
 | false,[] => { out := x.out ++ [mkN (t.getD e.1 qAB.dflt) (-1)],P := [x.out.length] }
 | false,p :: P => { out := qAU x.out p x.out.length ++ [mkN (t.getD e.1 qAB.dflt) p],P := x.out.length :: p :: P }
def PSt.run (t : List qAD) : PSt → List Ev → PSt
 | x,[] => x
 | x,e :: l => PSt.run t (x.step t e) l
theorem qFW (t : List qAD) : ∀ (l l' : List Ev) (x : PSt),x.run t (l ++ l') = (x.run t l).run t l' := by
 intro l
 induction l with
 | nil => intro l' x;rfl
 | cons e l ih => intro l' x;exact ih l' (x.step t e)
def pS (t : List qAD) (K : Nat → List Int) (out : List qAD) (s : List Bool) (p i j : Nat) : List qAD := (({ out := out,P := [p] } : PSt).run t (dfs K s i j 0).1).out
def sS (K : Nat → List Int) (s : List Bool) (i j : Nat) : List Bool := (dfs K s i j 0).2.1
variable {K : Nat → List Int} {t : List qAD}
theorem qAW (out : List qAD) (p : Nat) (k : Int) : (qAU out p k).length = out.length := by unfold qAU;exact List.length_set ..
theorem qeU : ∀ (s : List Bool) (i j c : Nat),∀ c',(dfs K s i j c).2.1 = (dfs K s i j c').2.1 ∧ ∀ x : PSt,x.run t (dfs K s i j c).1 = x.run t (dfs K s i j c').1 := by
 refine qFP (K := K) ?_ ?_ ?_
 ·intro s i j c h c';rw [qCV h,qCV h];exact ⟨rfl,fun x => rfl⟩
 ·intro s i j c h hk ih c';rw [qCT h hk,qCT h hk];exact ih c'
 ·intro s i j c h hk i1 i2 c'
  rw [qFA h hk,qFA h hk]
  dsimp only
  obtain ⟨a1,a2⟩ := i1 (c' + 1)
  rw [← a1]
  obtain ⟨b1,b2⟩ := i2 (dfs K (s.set ((K i).getD j 0).toNat true) ((K i).getD j 0).toNat 0 (c' + 1)).2.2
  refine ⟨b1,fun x => ?_⟩
  show ((x.step t _).run t _) = ((x.step t _).run t _)
  rw [qFW,qFW]
  have e : x.step t (((K i).getD j 0).toNat,(i : Int),c,false) = x.step t (((K i).getD j 0).toNat,(i : Int),c',false) := rfl
  rw [e,a2,b2]
theorem qTI : ∀ (s : List Bool) (i j c : Nat),∀ (out : List qAD) (p : Nat) (P : List Nat),
  ({ out := out,P := p :: P } : PSt).run t (dfs K s i j c).1 = { out := (({ out := out,P := [p] } : PSt).run t (dfs K s i j c).1).out,P := P } := by
 refine qFP (K := K) ?_ ?_ ?_
 ·intro s i j c h out p P;rw [qCV h];rfl
 ·intro s i j c h hk ih out p P;rw [qCT h hk];exact ih out p P
 ·intro s i j c h hk i1 i2 out p P
  rw [qFA h hk]
  dsimp only
  have e : ∀ Q,({ out := out,P := p :: Q } : PSt).step t (((K i).getD j 0).toNat,(i : Int),c,false) =
   { out := qAU out p out.length ++ [mkN (t.getD ((K i).getD j 0).toNat qAB.dflt) p],P := out.length :: p :: Q } := fun Q => rfl
  show PSt.run t (PSt.step t _ _) _ = { out := (PSt.run t (PSt.step t _ _) _).out,P := P }
  rw [e,e,qFW,qFW,i1 _ out.length (p :: P),i1 _ out.length [p],i2 _ p P]
theorem qO3 {out s p i j} (h : ¬ j < (K i).length) : pS t K out s p i j = out ∧ sS K s i j = s := by
 unfold pS sS;rw [qCV h];exact ⟨rfl,rfl⟩
theorem qOC {out s p i j} (h : j < (K i).length) (hk : okK s ((K i).getD j 0) = false) : pS t K out s p i j = pS t K out s p i (j + 1) ∧ sS K s i j = sS K s i (j + 1) := by
 unfold pS sS;rw [qCT h hk];exact ⟨rfl,rfl⟩
def qGT (t : List qAD) (K : Nat → List Int) (out : List qAD) (s : List Bool) (k : Nat) (up : Int) : List qAD := pS t K (out ++ [mkN (t.getD k qAB.dflt) up]) (s.set k true) out.length k 0
def qLR (K : Nat → List Int) (s : List Bool) (k : Nat) : List Bool := sS K (s.set k true) k 0
theorem qYJ {out s p i j} (h : j < (K i).length) (hk : okK s ((K i).getD j 0) = true) :
    pS t K out s p i j = pS t K (qGT t K (qAU out p out.length) s ((K i).getD j 0).toNat p) (qLR K s ((K i).getD j 0).toNat) p i (j + 1) ∧ sS K s i j = sS K (qLR K s ((K i).getD j 0).toNat) i (j + 1) := by
  have a := fun c => qeU (t := t) (K := K) (s.set ((K i).getD j 0).toNat true) ((K i).getD j 0).toNat 0 c 0
  unfold pS sS qGT qLR pS sS
  rw [qFA h hk]
  dsimp only
  rw [(a 1).1]
  have b := fun c => qeU (t := t) (K := K) (dfs K (s.set ((K i).getD j 0).toNat true) ((K i).getD j 0).toNat 0 0).2.1 i (j + 1) c 0
  refine ⟨?_,(b _).1⟩
  show (PSt.run t (PSt.step t _ _) _).out = _
  have e : ({ out := out,P := [p] } : PSt).step t (((K i).getD j 0).toNat,(i : Int),0,false) =
      { out := qAU out p out.length ++ [mkN (t.getD ((K i).getD j 0).toNat qAB.dflt) p],P := out.length :: [p] } := rfl
  rw [e,qFW,qTI,(b _).2,(a 1).2,qAW]
theorem qfK : ∀ (s : List Bool) (i j c : Nat),∀ (out : List qAD) (p : Nat),
  out.length ≤ (({ out := out,P := [p] } : PSt).run t (dfs K s i j c).1).out.length ∧ (({ out := out,P := [p] } : PSt).run t (dfs K s i j c).1).out.length + unseen (dfs K s i j c).2.1 = out.length + unseen s ∧
   (∀ q,q < out.length → q ≠ p → (({ out := out,P := [p] } : PSt).run t (dfs K s i j c).1).out.getD q qAB.dflt = out.getD q qAB.dflt) ∧ (dfs K s i j c).2.1.length = s.length := by
 refine qFP (K := K) ?_ ?_ ?_
 ·intro s i j c h out p;rw [qCV h];exact ⟨Nat.le_refl _,rfl,fun q _ _ => rfl,rfl⟩
 ·intro s i j c h hk ih out p;rw [qCT h hk];exact ih out p
 ·intro s i j c h hk i1 i2 out p
  rw [qFA h hk]
  dsimp only
  have e : ({ out := out,P := [p] } : PSt).step t (((K i).getD j 0).toNat,(i : Int),c,false) =
   { out := qAU out p out.length ++ [mkN (t.getD ((K i).getD j 0).toNat qAB.dflt) p],P := out.length :: [p] } := rfl
  have er : ∀ l,({ out := out,P := [p] } : PSt).run t ((((K i).getD j 0).toNat,(i : Int),c,false) :: l) =
   ({ out := qAU out p out.length ++ [mkN (t.getD ((K i).getD j 0).toNat qAB.dflt) p],P := out.length :: [p] } : PSt).run t l := fun l => by rw [← e];rfl
  have er2 : ∀ l1 l2 c1,l1 = (dfs K (s.set ((K i).getD j 0).toNat true) ((K i).getD j 0).toNat 0 c1).1 → (({ out := out,P := [p] } : PSt).run t ((((K i).getD j 0).toNat,(i : Int),c,false) :: (l1 ++ l2))).out =
   (({ out := (({ out := qAU out p out.length ++ [mkN (t.getD ((K i).getD j 0).toNat qAB.dflt) p],P := [out.length] } : PSt).run t l1).out,P := [p] } : PSt).run t l2).out := fun l1 l2 c1 hl => by
   rw [er,qFW,hl,qTI]
  rw [er2 _ _ _ rfl]
  have hl : (qAU out p out.length ++ [mkN (t.getD ((K i).getD j 0).toNat qAB.dflt) p]).length = out.length + 1 := by rw [List.length_append,qAW];rfl
  have hu := qAX (qA5 hk).2.2
  obtain ⟨a1,a2,a3,a4⟩ := i1 (qAU out p out.length ++ [mkN (t.getD ((K i).getD j 0).toNat qAB.dflt) p]) out.length
  rw [hl] at a1 a2 a3
  generalize (({ out := qAU out p out.length ++ [mkN (t.getD ((K i).getD j 0).toNat qAB.dflt) p],P := [out.length] } : PSt).run t (dfs K (s.set ((K i).getD j 0).toNat true) ((K i).getD j 0).toNat 0 (c + 1)).1).out = y at *
  obtain ⟨b1,b2,b3,b4⟩ := i2 y p
  refine ⟨by omega,by omega,fun q hq hp => ?_,?_⟩
  ·rw [b3 q (by omega) hp,a3 q (by omega) (by omega)]
   unfold qAU
   rw [List.getD_eq_getElem?_getD,List.getElem?_append_left (by rw [List.length_set];exact hq),List.getElem?_set,if_neg (fun h => hp h.symm),List.getD_eq_getElem?_getD]
  ·rw [b4,a4,List.length_set]
theorem qGA (out : List qAD) (s : List Bool) (k : Nat) (up : Int) : out.length + 1 ≤ (qGT t K out s k up).length ∧ (qGT t K out s k up).length + unseen (qLR K s k) = out.length + 1 + unseen (s.set k true) ∧
  (∀ q,q < out.length → (qGT t K out s k up).getD q qAB.dflt = out.getD q qAB.dflt) ∧ (qLR K s k).length = s.length := by
 obtain ⟨h1,h2,h3,h4⟩ := qfK (t := t) (K := K) (s.set k true) k 0 0 (out ++ [mkN (t.getD k qAB.dflt) up]) out.length
 rw [List.length_append,List.length_singleton] at h1 h2 h3
 refine ⟨h1,h2,fun q hq => ?_,by rw [List.length_set] at h4;exact h4⟩
 show (PSt.run t _ _).out.getD q _ = _
 rw [h3 q (by omega) (by omega),List.getD_eq_getElem?_getD,List.getElem?_append_left hq,List.getD_eq_getElem?_getD]
end Go.Vc

namespace Go.Vc
open Go.Proofs
set_option maxRecDepth 10000
theorem take_snoc {α : Type} (l : List α) (i : Nat) (d : α) (h : i < l.length) : l.take (i + 1) = l.take i ++ [l.getD i d] := by
 rw [List.take_succ_eq_append_getElem h];simp [List.getD,List.getElem?_eq_getElem h]
theorem qT0 {α : Type} (p : α → Bool) (l : List α) (i : Nat) (d : α) (h : i < l.length) : (l.take (i + 1)).all p = ((l.take i).all p && p (l.getD i d)) := by
 rw [take_snoc l i d h];simp
theorem qI7 {α : Type} {p : α → Bool} {l : List α} {i : Nat} {d : α} (h : i < l.length) (hp : p (l.getD i d) = false) : l.all p = false := by
 rw [List.all_eq_false]
 refine ⟨l.getD i d,?_,by rw [hp];simp⟩
 simp [List.getD,List.getElem?_eq_getElem h]
abbrev qDN := qBK.T
def qHX (l : List qDN) : Bool := decide (l.length ≤ 14) && l.all fun a => decide (a.1.length ≤ 40) && decide (a.2.length ≤ 150)
instance f33 (l : List qDN) : Fn BB 39 [.rd qBK l] True (.bool (qHX l)) := by
 refine Fn.intro (N := 25) [0,2,4,7,8,9,10,11,23] [] Try.call39 Try.func39 rfl rfl (by kernel_rfl) (fun hpre => ?_)
 repeat' ((conv => whnf);first|(with_reducible first|rfl|exact qAH|exact qAG)|exact True.intro|intro _|refine WA ?_ ?_|refine WF ?_|refine W1 rfl ?_ ?_|refine W2 rfl ?_ ?_|refine W3 rfl ?_ ?_|refine W4 ?_ ?_|refine W5 rfl ?_ ?_|refine W6 ?_ ?_|refine WN ?_|refine X1 (W1 rfl ?_ ?_)|refine X1 (W2 rfl ?_ ?_)|refine X2 (W7 rfl ?_ ?_)|refine X3 (W7 rfl ?_ ?_)|refine X4 (W7 rfl ?_ ?_)|refine X5 (W7 rfl ?_ ?_))
 all_goals (try (conv => whnf))
 ·simp only [qHX,decide_eq_true_eq] at *
  rw [decide_eq_false (by omega)];rfl
 ·refine LoopStop.mk (α := Nat) (fun i => [(10,.int .i64 i)]) (fun _ => []) 0 (fun i => i ≤ l.length ∧ (l.take i).all (fun a => decide (a.1.length ≤ 40) && decide (a.2.length ≤ 150)) = true) (fun i => l.length - i) 0 (by simp) ?_ (fun i hi => ?_)
  ·repeat' ((conv => whnf);first|(with_reducible first|rfl|exact qAH|exact qAG)|exact True.intro|intro _|refine WA ?_ ?_|refine WF ?_|refine W1 rfl ?_ ?_|refine W2 rfl ?_ ?_|refine W3 rfl ?_ ?_|refine W4 ?_ ?_|refine W5 rfl ?_ ?_|refine W6 ?_ ?_|refine WN ?_|refine X1 (W1 rfl ?_ ?_)|refine X1 (W2 rfl ?_ ?_)|refine X2 (W7 rfl ?_ ?_)|refine X3 (W7 rfl ?_ ?_)|refine X4 (W7 rfl ?_ ?_)|refine X5 (W7 rfl ?_ ?_))
   all_goals (try (conv => whnf))
   all_goals (try rfl)
  ·obtain ⟨hi,ha⟩ := hi
   repeat' ((conv => whnf);first|(with_reducible first|rfl|exact qAH|exact qAG)|exact True.intro|intro _|refine WA ?_ ?_|refine WF ?_|refine W1 rfl ?_ ?_|refine W2 rfl ?_ ?_|refine W3 rfl ?_ ?_|refine W4 ?_ ?_|refine W5 rfl ?_ ?_|refine W6 ?_ ?_|refine WN ?_|refine X1 (W1 rfl ?_ ?_)|refine X1 (W2 rfl ?_ ?_)|refine X2 (W7 rfl ?_ ?_)|refine X3 (W7 rfl ?_ ?_)|refine X4 (W7 rfl ?_ ?_)|refine X5 (W7 rfl ?_ ?_))
   all_goals (try (conv => whnf))
   all_goals (try first|exact obA|refine Ob.mk ?_)
   all_goals (try simp only [ZA,ZB,ZC,ZD,ZE,ZF,ZG,ZH,ZI,ZJ,ZK,ZL,ZM,ZN,ZO,Int.toNat_natCast,UInt8.ofNat_toNat,cast_eq] at *)
   ·have h : i < l.length := by omega
    rw [qHX,qI7 h (d := qBK.dflt)]
    ·simp
    ·simp_all;omega
   ·have h : i < l.length := by omega
    refine Rnd.mk ⟨i + 1,?_,?_,?_⟩
    ·refine ⟨by omega,?_⟩
     rw [qT0 _ l i qBK.dflt h,ha]
     simp_all
     omega
    ·omega
    ·all_goals exact vcA
   ·have : i = l.length := by omega
    subst this
    rw [List.take_length] at ha
    rw [qHX,ha,decide_eq_true (by omega)];rfl
def qTQ (n : qAD) : Bool := decide ((n.2.2.1.length : Int) ≤ 40) && decide ((n.2.2.2.2.1.length : Int) ≤ 300) && decide ((n.kids.length : Int) ≤ 60) && qHX n.2.2.2.1
instance f9 (k s : Int) (nm : List UInt8) (at_ : List qDN) (d : List UInt8) (up : Int) (kids : List Int) :
  Fn BB 22 [.agg [.int .i64 k,.int .i64 s,.str nm,.rd qBK at_,.str d,.int .i64 up,.rd qAJ kids]] True (.bool (qTQ (k,s,nm,at_,d,up,kids))) := by
 refine Fn.intro (N := 24) [0,1,2] [] Try.call22 Try.func22 rfl rfl (by kernel_rfl) (fun hpre => ?_)
 all_goals exact vcA
def qIZ (l : List qAD) (most : Int) : Bool := decide (l.length ≤ most) && l.all qTQ
instance f8 (l : List qAD) (most : Int) : Fn BB 6 [.agg [.rd qAB l],.int .i64 most] True (.bool (qIZ l most)) := by
 refine Fn.intro (N := 23) [0,1,2,4,6,11,13,14,15,16,21] [] Try.call6 Try.func6 rfl rfl (by kernel_rfl) (fun hpre => ?_)
 repeat' ((conv => whnf);first|(with_reducible first|rfl|exact qAH|exact qAG)|exact True.intro|intro _|refine WA ?_ ?_|refine WF ?_|refine W1 rfl ?_ ?_|refine W2 rfl ?_ ?_|refine W3 rfl ?_ ?_|refine W4 ?_ ?_|refine W5 rfl ?_ ?_|refine W6 ?_ ?_|refine WN ?_|refine X1 (W1 rfl ?_ ?_)|refine X1 (W2 rfl ?_ ?_)|refine X2 (W7 rfl ?_ ?_)|refine X3 (W7 rfl ?_ ?_)|refine X4 (W7 rfl ?_ ?_)|refine X5 (W7 rfl ?_ ?_))
 all_goals (try (conv => whnf))
 ·simp only [qIZ,decide_eq_true_eq] at *
  rw [decide_eq_false (by omega)];rfl
 ·refine LoopStop.mk (α := Nat) (fun i => [(15,.int .i64 i)]) (fun _ => []) 20 (fun i => i ≤ l.length ∧ (l.take i).all qTQ = true) (fun i => l.length - i) 0 (by simp) ?_ (fun i hi => ?_)
  ·repeat' ((conv => whnf);first|(with_reducible first|rfl|exact qAH|exact qAG)|exact True.intro|intro _|refine WA ?_ ?_|refine WF ?_|refine W1 rfl ?_ ?_|refine W2 rfl ?_ ?_|refine W3 rfl ?_ ?_|refine W4 ?_ ?_|refine W5 rfl ?_ ?_|refine W6 ?_ ?_|refine WN ?_|refine X1 (W1 rfl ?_ ?_)|refine X1 (W2 rfl ?_ ?_)|refine X2 (W7 rfl ?_ ?_)|refine X3 (W7 rfl ?_ ?_)|refine X4 (W7 rfl ?_ ?_)|refine X5 (W7 rfl ?_ ?_))
   all_goals (try (conv => whnf))
   all_goals (try rfl)
  ·obtain ⟨hi,ha⟩ := hi
   repeat' ((conv => whnf);first|(with_reducible first|rfl|exact qAH|exact qAG)|exact True.intro|intro _|refine WA ?_ ?_|refine WF ?_|refine W1 rfl ?_ ?_|refine W2 rfl ?_ ?_|refine W3 rfl ?_ ?_|refine W4 ?_ ?_|refine W5 rfl ?_ ?_|refine W6 ?_ ?_|refine WN ?_|refine X1 (W1 rfl ?_ ?_)|refine X1 (W2 rfl ?_ ?_)|refine X2 (W7 rfl ?_ ?_)|refine X3 (W7 rfl ?_ ?_)|refine X4 (W7 rfl ?_ ?_)|refine X5 (W7 rfl ?_ ?_))
   all_goals (try (conv => whnf))
   all_goals (try first|exact obA|refine Ob.mk ?_)
   all_goals (try simp only [ZA,ZB,ZC,ZD,ZE,ZF,ZG,ZH,ZI,ZJ,ZK,ZL,ZM,ZN,ZO,Int.toNat_natCast,UInt8.ofNat_toNat,cast_eq] at *)
   ·have h : i < l.length := by omega
    rw [qIZ,qI7 h (d := qAB.dflt)]
    ·simp
    ·simp_all
   ·have h : i < l.length := by omega
    refine Rnd.mk ⟨i + 1,?_,?_,?_⟩
    ·refine ⟨by omega,?_⟩
     rw [qT0 _ l i qAB.dflt h,ha]
     simp_all
    ·omega
    ·all_goals exact vcA
   ·have : i = l.length := by omega
    subst this
    rw [List.take_length] at ha
    rw [qIZ,ha,decide_eq_true (by omega)];rfl
end Go.Vc

namespace Go.Vc
open Go.Proofs
set_option maxRecDepth 10000
instance f14 (l : List Int) : FnM BB 45 [.rd qAJ l] [] (l.length ≤ 100000) (.own 0) [(0,.own qAJ l)] := by
 refine FnM.intro (N := 8) [0,2,4] [] 1 Try.call45 Try.func45 rfl rfl (by kernel_rfl) (fun hpre => ?_)
 repeat' ((conv => whnf);first|(with_reducible first|rfl|exact qAH|exact qAG)|exact True.intro|intro _|refine WA ?_ ?_|refine WF ?_|refine W1 rfl ?_ ?_|refine W2 rfl ?_ ?_|refine W3 rfl ?_ ?_|refine W4 ?_ ?_|refine W5 rfl ?_ ?_|refine W6 ?_ ?_|refine WN ?_|refine X1 (W1 rfl ?_ ?_)|refine X1 (W2 rfl ?_ ?_)|refine X2 (W7 rfl ?_ ?_)|refine X3 (W7 rfl ?_ ?_)|refine X4 (W7 rfl ?_ ?_)|refine X5 (W7 rfl ?_ ?_))
 all_goals (try (conv => whnf))
 all_goals (try first|exact obA|refine Ob.mk ?_)
 all_goals (try simp_all)
instance f36 (l : List qDN) : FnM BB 40 [.rd qBK l] [] (l.length ≤ 100000) (.own 0) [(0,.own qBK l)] := by
 refine FnM.intro (N := 8) [0,2,4] [] 1 Try.call40 Try.func40 rfl rfl (by kernel_rfl) (fun hpre => ?_)
 repeat' ((conv => whnf);first|(with_reducible first|rfl|exact qAH|exact qAG)|exact True.intro|intro _|refine WA ?_ ?_|refine WF ?_|refine W1 rfl ?_ ?_|refine W2 rfl ?_ ?_|refine W3 rfl ?_ ?_|refine W4 ?_ ?_|refine W5 rfl ?_ ?_|refine W6 ?_ ?_|refine WN ?_|refine X1 (W1 rfl ?_ ?_)|refine X1 (W2 rfl ?_ ?_)|refine X2 (W7 rfl ?_ ?_)|refine X3 (W7 rfl ?_ ?_)|refine X4 (W7 rfl ?_ ?_)|refine X5 (W7 rfl ?_ ?_))
 all_goals (try (conv => whnf))
 all_goals (try first|exact obA|refine Ob.mk ?_)
 all_goals (try simp_all)
def qLS (l : List Int) (w : Int) : Int := if l.contains w then (l.idxOf w : Int) else -1
theorem qOS {l : List Int} {w : Int} (h : l.contains w = false) : qLS l w = -1 := by rw [qLS,h];rfl
theorem qZK (l : List Int) (i : Nat) (w : Int) (h : i < l.length) : (l.take (i+1)).contains w = ((l.take i).contains w || (l.getD i 0 == w)) := by
 rw [take_snoc l i 0 h]
 simp only [List.contains_eq_any_beq,List.any_append,List.any_cons,List.any_nil,Bool.or_false]
 congr 1
 exact Bool.beq_comm
theorem qYI {l : List Int} {w : Int} {i : Nat} (h : i < l.length) (h1 : (l.take i).contains w = false) (h2 : w = l.getD i 0) : qLS l w = i := by
 have hc : l.contains w = true := by rw [h2];simp [List.getD,List.getElem?_eq_getElem h]
 rw [qLS,hc,if_pos rfl]
 have e := List.take_append_drop i l
 rw [← e,List.idxOf_append,if_neg (by simpa using h1),List.length_take,Nat.min_eq_left (by omega)]
 have e2 : l.drop i = w :: l.drop (i+1) := by rw [List.drop_eq_getElem_cons h,h2];simp [List.getD,List.getElem?_eq_getElem h]
 rw [e2,List.idxOf_cons_self];simp
instance f41 (l : List Int) (w : Int) : Fn BB 38 [.rd qAJ l,.int .i64 w] True (.int .i64 (qLS l w)) := by
 refine Fn.intro (N := 19) [0,1,4,5,7,8,9,16] [] Try.call38 Try.func38 rfl rfl (by kernel_rfl) (fun hpre => ?_)
 repeat' ((conv => whnf);first|(with_reducible first|rfl|exact qAH|exact qAG)|exact True.intro|intro _|refine WA ?_ ?_|refine WF ?_|refine W1 rfl ?_ ?_|refine W2 rfl ?_ ?_|refine W3 rfl ?_ ?_|refine W4 ?_ ?_|refine W5 rfl ?_ ?_|refine W6 ?_ ?_|refine WN ?_|refine X1 (W1 rfl ?_ ?_)|refine X1 (W2 rfl ?_ ?_)|refine X2 (W7 rfl ?_ ?_)|refine X3 (W7 rfl ?_ ?_)|refine X4 (W7 rfl ?_ ?_)|refine X5 (W7 rfl ?_ ?_))
 all_goals (try (conv => whnf))
 refine LoopStop.mk (α := Nat) (fun i => [(8,.int .i64 i)]) (fun i => []) 20 (fun i => i ≤ l.length ∧ (l.take i).contains w = false) (fun i => l.length - i) 0 (by simp) ?_ (fun i hi => ?_)
 ·repeat' ((conv => whnf);first|(with_reducible first|rfl|exact qAH|exact qAG)|exact True.intro|intro _|refine WA ?_ ?_|refine WF ?_|refine W1 rfl ?_ ?_|refine W2 rfl ?_ ?_|refine W3 rfl ?_ ?_|refine W4 ?_ ?_|refine W5 rfl ?_ ?_|refine W6 ?_ ?_|refine WN ?_|refine X1 (W1 rfl ?_ ?_)|refine X1 (W2 rfl ?_ ?_)|refine X2 (W7 rfl ?_ ?_)|refine X3 (W7 rfl ?_ ?_)|refine X4 (W7 rfl ?_ ?_)|refine X5 (W7 rfl ?_ ?_))
  all_goals (try (conv => whnf))
  all_goals (try rfl)
 ·obtain ⟨hi,ha⟩ := hi
  repeat' ((conv => whnf);first|(with_reducible first|rfl|exact qAH|exact qAG)|exact True.intro|intro _|refine WA ?_ ?_|refine WF ?_|refine W1 rfl ?_ ?_|refine W2 rfl ?_ ?_|refine W3 rfl ?_ ?_|refine W4 ?_ ?_|refine W5 rfl ?_ ?_|refine W6 ?_ ?_|refine WN ?_|refine X1 (W1 rfl ?_ ?_)|refine X1 (W2 rfl ?_ ?_)|refine X2 (W7 rfl ?_ ?_)|refine X3 (W7 rfl ?_ ?_)|refine X4 (W7 rfl ?_ ?_)|refine X5 (W7 rfl ?_ ?_))
  all_goals (try (conv => whnf))
  all_goals (try first|exact obA|refine Ob.mk ?_)
  all_goals (try simp only [ZA,ZB,ZC,ZD,ZE,ZF,ZG,ZH,ZI,ZJ,ZK,ZL,ZM,ZN,ZO,Int.toNat_natCast,UInt8.ofNat_toNat,cast_eq] at *)
  ·rw [qYI (i := i) (by omega) (by simpa using ha) (by assumption)]
  ·have h : i < l.length := by omega
   refine Rnd.mk ⟨i + 1,?_,?_,?_⟩
   ·refine ⟨by omega,?_⟩
    rw [qZK l i w h,Bool.or_eq_false_iff]
    refine ⟨by simpa using ha,beq_eq_false_iff_ne.2 fun e => ?_⟩
    simp_all
   ·omega
   ·all_goals exact vcA
  ·have : i = l.length := by omega
   subst this
   rw [qOS (by simpa using ha)]
end Go.Vc

namespace Go.Vc
open Go.Proofs
set_option maxRecDepth 10000
abbrev nd (l : List qAD) (i : Int) : qAD := l.getD i.toNat qAB.dflt
def qB3 (l : List qAD) (kid : Int) : Int := if isT l kid && isT l (nd l kid).up then qLS (nd l (nd l kid).up).kids kid else -1
theorem qA9 {l : List qAD} {i : Int} : isT l i = true ↔ 0 ≤ i ∧ i < l.length := by simp [isT]
theorem qR4 {a b : Bool} (h : (!a || !b) = true) : (a && b) = false := by cases a <;> cases b <;> simp_all
theorem qFR {a b : Bool} (h : (!a || !b) = false) : a = true ∧ b = true := by cases a <;> cases b <;> simp_all
instance f34 (l : List qAD) (kid : Int) : Fn BB 53 [.agg [.rd qAB l],.int .i64 kid] True (.int .i64 (qB3 l kid)) := by
 refine Fn.intro (N := 33) [0,1,2,4,19] [(1,[1,0,1,1,1,1,1,1,1,1,1,1,3,3,3]),(3,[0,1,0,1,0,1,1,1,3,3,3,0,3,3])] Try.call53 Try.func53 rfl rfl (by kernel_rfl) (fun hpre => ?_)
 repeat' ((conv => whnf);first|(with_reducible first|rfl|exact qAH|exact qAG)|exact True.intro|intro _|refine WA ?_ ?_|refine WF ?_|refine W1 rfl ?_ ?_|refine W2 rfl ?_ ?_|refine W3 rfl ?_ ?_|refine W4 ?_ ?_|refine W5 rfl ?_ ?_|refine W6 ?_ ?_|refine WN ?_|refine X1 (W1 rfl ?_ ?_)|refine X1 (W2 rfl ?_ ?_)|refine X2 (W7 rfl ?_ ?_)|refine X3 (W7 rfl ?_ ?_)|refine X4 (W7 rfl ?_ ?_)|refine X5 (W7 rfl ?_ ?_))
 all_goals (try (conv => whnf))
 all_goals (try first|exact obA|refine Ob.mk ?_)
 ·exact qA9.1 (by simp_all)
 ·rename_i h
  rw [qB3]
  have h := qR4 h
  rw [show (isT l kid && isT l (nd l kid).up) = false from h];rfl
 ·exact qA9.1 (qFR ‹_›).1
 ·exact qA9.1 (qFR ‹_›).2
 ·rename_i h
  obtain ⟨h1,h2⟩ := qFR h
  rw [qB3,show isT l (nd l kid).up = true from h2,h1];rfl
def qI8 : Nat → List qAD → Int → Int → Bool
 | 0,_,_,_ => false
 | n + 1,l,up,kid => if isT l kid then (if kid = up then true else qI8 n l up (nd l kid).up) else false
def qLT (l : List qAD) (up kid : Int) : Bool := isT l up && qI8 (l.length + 1) l up kid
instance f35 (l : List qAD) (up kid : Int) : Fn BB 42 [.agg [.rd qAB l],.int .i64 up,.int .i64 kid] (l.length ≤ 100000) (.bool (qLT l up kid)) := by
 refine Fn.intro (N := 31) [0,1,2,3,6,10,14,15,16,20,23] [] Try.call42 Try.func42 rfl rfl (by kernel_rfl) (fun hpre => ?_)
 repeat' ((conv => whnf);first|(with_reducible first|rfl|exact qAH|exact qAG)|exact True.intro|intro _|refine WA ?_ ?_|refine WF ?_|refine W1 rfl ?_ ?_|refine W2 rfl ?_ ?_|refine W3 rfl ?_ ?_|refine W4 ?_ ?_|refine W5 rfl ?_ ?_|refine W6 ?_ ?_|refine WN ?_|refine X1 (W1 rfl ?_ ?_)|refine X1 (W2 rfl ?_ ?_)|refine X2 (W7 rfl ?_ ?_)|refine X3 (W7 rfl ?_ ?_)|refine X4 (W7 rfl ?_ ?_)|refine X5 (W7 rfl ?_ ?_))
 all_goals (try (conv => whnf))
 all_goals (try first|exact obA|refine Ob.mk ?_)
 ·simp_all [qLT]
 ·refine LoopStop.mk (α := Nat × Int) (fun x => [(15,.int .i64 x.1),(2,.int .i64 x.2)]) (fun _ => []) 20 (fun x => x.1 ≤ l.length + 1 ∧ qI8 (l.length + 1 - x.1) l up x.2 = qI8 (l.length + 1) l up kid) (fun x => l.length + 1 - x.1) (0,kid) (by simp) ?_ (fun x hx => ?_)
  ·repeat' ((conv => whnf);first|(with_reducible first|rfl|exact qAH|exact qAG)|exact True.intro|intro _|refine WA ?_ ?_|refine WF ?_|refine W1 rfl ?_ ?_|refine W2 rfl ?_ ?_|refine W3 rfl ?_ ?_|refine W4 ?_ ?_|refine W5 rfl ?_ ?_|refine W6 ?_ ?_|refine WN ?_|refine X1 (W1 rfl ?_ ?_)|refine X1 (W2 rfl ?_ ?_)|refine X2 (W7 rfl ?_ ?_)|refine X3 (W7 rfl ?_ ?_)|refine X4 (W7 rfl ?_ ?_)|refine X5 (W7 rfl ?_ ?_))
   all_goals (try (conv => whnf))
   all_goals (try rfl)
  ·obtain ⟨i,k⟩ := x
   obtain ⟨hi,ha⟩ := hx
   have hstep : i < l.length + 1 → qI8 (l.length + 1 - i) l up k = if isT l k then (if k = up then true else qI8 (l.length + 1 - (i + 1)) l up (nd l k).up) else false := by
    intro h
    rw [show l.length + 1 - i = (l.length + 1 - (i + 1)) + 1 by omega];rfl
   dsimp only at hi ha
   have hg : qLT l up kid = (isT l up && qI8 (l.length + 1 - i) l up k) := by rw [qLT,ha]
   repeat' ((conv => whnf);first|(with_reducible first|rfl|exact qAH|exact qAG)|exact True.intro|intro _|refine WA ?_ ?_|refine WF ?_|refine W1 rfl ?_ ?_|refine W2 rfl ?_ ?_|refine W3 rfl ?_ ?_|refine W4 ?_ ?_|refine W5 rfl ?_ ?_|refine W6 ?_ ?_|refine WN ?_|refine X1 (W1 rfl ?_ ?_)|refine X1 (W2 rfl ?_ ?_)|refine X2 (W7 rfl ?_ ?_)|refine X3 (W7 rfl ?_ ?_)|refine X4 (W7 rfl ?_ ?_)|refine X5 (W7 rfl ?_ ?_))
   all_goals (try (conv => whnf))
   all_goals (try first|exact obA|refine Ob.mk ?_)
   all_goals (simp only [decide_eq_true_eq,decide_eq_false_iff_not,beq_iff_eq,beq_eq_false_iff_ne,Bool.not_eq_true',Bool.not_eq_false'] at *)
   ·rw [hg,hstep (by omega)];simp_all
   ·rw [hg,hstep (by omega)];simp_all
   ·exact qA9.1 ‹_›
   ·refine Rnd.mk ⟨(i + 1,(nd l k).up),?_,?_,?_⟩
    ·refine ⟨by omega,?_⟩
     rw [← ha,hstep (by omega)]
     simp_all
    ·simp only [];omega
    ·all_goals exact vcA
   ·have : i = l.length + 1 := by omega
    subst this
    rw [hg]
    simp [qI8]
theorem qFD {α : Type} {a b : List α} {i : Nat} {d : α} (h : i < a.length) (hl : a.length = b.length) (ht : a.take i = b.take i) (he : a.getD i d = b.getD i d) : a.take (i + 1) = b.take (i + 1) := by
 rw [take_snoc a i d h,take_snoc b i d (by omega),ht,he]
instance f54 (a b : List qDN) : Fn BB 51 [.rd qBK a,.rd qBK b] True (.bool (decide (a = b))) := by
 refine Fn.intro (N := 26) [0,1,4,5,10,14,25] [(6,[0,0,1,1,0,0,1,1,3])] Try.call51 Try.func51 rfl rfl (by kernel_rfl) (fun hpre => ?_)
 repeat' ((conv => whnf);first|(with_reducible first|rfl|exact qAH|exact qAG)|exact True.intro|intro _|refine WA ?_ ?_|refine WF ?_|refine W1 rfl ?_ ?_|refine W2 rfl ?_ ?_|refine W3 rfl ?_ ?_|refine W4 ?_ ?_|refine W5 rfl ?_ ?_|refine W6 ?_ ?_|refine WN ?_|refine X1 (W1 rfl ?_ ?_)|refine X1 (W2 rfl ?_ ?_)|refine X2 (W7 rfl ?_ ?_)|refine X3 (W7 rfl ?_ ?_)|refine X4 (W7 rfl ?_ ?_)|refine X5 (W7 rfl ?_ ?_))
 all_goals (try (conv => whnf))
 ·refine (decide_eq_false fun e => ?_).symm
  subst e;simp_all
 ·refine LoopStop.mk (α := Nat) (fun i => [(5,.int .i64 i)]) (fun _ => []) 20 (fun i => i ≤ a.length ∧ a.take i = b.take i) (fun i => a.length - i) 0 (by simp) ?_ (fun i hi => ?_)
  ·repeat' ((conv => whnf);first|(with_reducible first|rfl|exact qAH|exact qAG)|exact True.intro|intro _|refine WA ?_ ?_|refine WF ?_|refine W1 rfl ?_ ?_|refine W2 rfl ?_ ?_|refine W3 rfl ?_ ?_|refine W4 ?_ ?_|refine W5 rfl ?_ ?_|refine W6 ?_ ?_|refine WN ?_|refine X1 (W1 rfl ?_ ?_)|refine X1 (W2 rfl ?_ ?_)|refine X2 (W7 rfl ?_ ?_)|refine X3 (W7 rfl ?_ ?_)|refine X4 (W7 rfl ?_ ?_)|refine X5 (W7 rfl ?_ ?_))
   all_goals (try (conv => whnf))
   all_goals (try rfl)
  ·obtain ⟨hi,ha⟩ := hi
   repeat' ((conv => whnf);first|(with_reducible first|rfl|exact qAH|exact qAG)|exact True.intro|intro _|refine WA ?_ ?_|refine WF ?_|refine W1 rfl ?_ ?_|refine W2 rfl ?_ ?_|refine W3 rfl ?_ ?_|refine W4 ?_ ?_|refine W5 rfl ?_ ?_|refine W6 ?_ ?_|refine WN ?_|refine X1 (W1 rfl ?_ ?_)|refine X1 (W2 rfl ?_ ?_)|refine X2 (W7 rfl ?_ ?_)|refine X3 (W7 rfl ?_ ?_)|refine X4 (W7 rfl ?_ ?_)|refine X5 (W7 rfl ?_ ?_))
   all_goals (try (conv => whnf))
   all_goals (try first|exact obA|refine Ob.mk ?_)
   all_goals (simp only [decide_eq_true_eq,decide_eq_false_iff_not,bne_eq_false_iff_eq,Bool.not_eq_true',Bool.not_eq_false',Bool.and_true] at *)
   ·refine (decide_eq_false fun e => ?_).symm
    subst e;simp_all
   ·rename_i h
    simp only [Bool.and_eq_true,beq_iff_eq] at h
    have hil : i < a.length := by omega
    refine Rnd.mk ⟨i + 1,?_,?_,?_⟩
    ·exact ⟨by omega,qFD (d := qBK.dflt) hil (by omega) ha (Prod.ext h.1 h.2)⟩
    ·omega
    ·all_goals exact vcA
   ·have : i = a.length := by omega
    subst this
    refine (decide_eq_true ?_).symm
    rw [List.take_length,List.take_of_length_le (by omega)] at ha
    exact ha
end Go.Vc

namespace Go.Vc
open Go.Proofs
set_option maxRecDepth 10000
noncomputable def eqB {α : Type} (a b : α) : Bool := @decide (a = b) (Classical.propDecidable _)
theorem qJU {α : Type} {a b : α} (h : a = b) : true = eqB a b := by unfold eqB;simp [h]
theorem qCM {α : Type} {a b : α} (h : a ≠ b) : false = eqB a b := by unfold eqB;simp [h]
theorem qMI {α : Type} {a b : α} : eqB a b = true ↔ a = b := by unfold eqB;simp
theorem qbD {α : Type} {a b : α} : eqB a b = false ↔ a ≠ b := by unfold eqB;simp
end Go.Vc

namespace Go.Vc
open Go.Proofs
set_option maxRecDepth 10000
def qA4 (l : List qAD) : Bool := decide (l.length ≤ 1000) && l.all fun n => decide (n.2.2.2.1.length ≤ 1000) && decide (n.kids.length ≤ 1000)
end Go.Vc

/-
 DERIVED: THE SHELF's CONTRACTS AT THIS DUMP,IN PLAIN WORDS (tools/lay-plain.mjs out of 'TryShelf.lean',which tools/lay-shelf.mjs wrote): THE SAME DECLARATIONS UNDER THE SAME NAMES: 'import', 'namespace', 'open', 'def', 'theorem' AND NOTHING ELSE: no command of the shelf's: FOR A HAND-IN. Each laying: the table of numbers ('.._ren') and one theorem,a field a fact of the dump's own or the kernel's comparison;each contract: ONE APPLICATION.
-/
namespace Go.Proofs
open Go.Shelf
def Try.laysNm223_ren : Go.Shelf.Ren := ⟨fun | 23 => 54 | n => n,fun | 22 => 30 | 3 => 3 | 4 => 4 | 0 => 0 | n => n,fun | n => n⟩
theorem Try.laysNm223 : Go.Proofs.Lays2.n23 Try.prog Try.laysNm223_ren := {
  mixed := by kernel_rfl
  f23 := Try.func54.trans (congrArg some (by kernel_rfl))
  t0 := Try.underlying0
  a0 := Try.isAgg0
  z0 := Try.sizeOf0
  v0 := Try.zeroValue0
  t3 := Try.underlying3
  a3 := Try.isAgg3
  z3 := Try.sizeOf3
  v3 := Try.zeroValue3
  t4 := Try.underlying4
  a4 := Try.isAgg4
  z4 := Try.sizeOf4
  v4 := Try.zeroValue4
  t22 := Try.underlying30
  a22 := Try.isAgg30
  z22 := Try.sizeOf30
  v22 := Try.zeroValue30
  i3 := by kernel_rfl }
open Go.RowKit Go.Lib Go.Sort in
theorem Try.slices_Delete_int_cells (b off n c i j : Nat) (zs : List Int) (w : World) (hz : n ≤ zs.length) (hcap : n ≤ c) (hm : c ≤ 9223372036854775807) (hij : i ≤ j) (hj : j ≤ n) (hc : ∀ j,j < zs.length → w.cell? ⟨b,off + j,none⟩ = some (.int .i64 (zs.getD j 0))) (hf : ∀ j,j < n → w.frozen? ⟨b,off + j,none⟩ = false) :
  Calls Try.prog 54 #[.slice (some ⟨b,off,none⟩) n c,.int .i64 i,.int .i64 j] w fun e w' => e = .returned (.slice (some ⟨b,off,none⟩) (n - (j - i)) c) ∧ ∃ q,w' = (w.drewN q).setCells b off (((zs.take n).take i ++ (zs.take n).drop j ++ List.replicate (j - i) 0).map (Value.int .i64)) := Any.slices_Delete_int_cells Try.laysNm223 b off n c i j zs w hz hcap hm hij hj hc hf
open Go.RowKit Go.Lib in
theorem Try.slices_Delete_int_empty (a : Option Addr) (c : Nat) (w : World) :
  Calls Try.prog 54 #[.slice a 0 c,.int .i64 0,.int .i64 0] w fun e w' => e = .returned (.slice a 0 c) ∧ w' = w := Any.slices_Delete_int_empty Try.laysNm223 a c w
def Try.laysNm221_ren : Go.Shelf.Ren := ⟨fun | 21 => 44 | 27 => 55 | 28 => 56 | 35 => 58 | 39 => 59 | n => n,fun | 22 => 30 | 3 => 3 | 4 => 4 | 0 => 0 | n => n,fun | n => n⟩
theorem Try.laysNm221 : Go.Proofs.Lays2.n21 Try.prog Try.laysNm221_ren := {
  mixed := by kernel_rfl
  f21 := Try.func44.trans (congrArg some (by kernel_rfl))
  f27 := Try.func55.trans (congrArg some (by kernel_rfl))
  f28 := Try.func56.trans (congrArg some (by kernel_rfl))
  f35 := Try.func58.trans (congrArg some (by kernel_rfl))
  f39 := Try.func59.trans (congrArg some (by kernel_rfl))
  t0 := Try.underlying0
  a0 := Try.isAgg0
  z0 := Try.sizeOf0
  v0 := Try.zeroValue0
  t3 := Try.underlying3
  a3 := Try.isAgg3
  z3 := Try.sizeOf3
  v3 := Try.zeroValue3
  t4 := Try.underlying4
  a4 := Try.isAgg4
  z4 := Try.sizeOf4
  v4 := Try.zeroValue4
  t22 := Try.underlying30
  a22 := Try.isAgg30
  z22 := Try.sizeOf30
  v22 := Try.zeroValue30
  i3 := by kernel_rfl }
end Go.Proofs
