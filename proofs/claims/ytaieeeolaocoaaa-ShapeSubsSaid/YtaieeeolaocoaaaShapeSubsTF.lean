/- A part of the proof: lemmas and walks that the last text of the claim joins; no condition. -/
import Derived.Test.YtaieeeolaocoaaaShapeSubsVE
import Derived.Laws.Externs
import Derived.Test.YtaieeeolaocoaaaChecked
import Derived.Shelf.Spec.SlicesInsert
import Derived.Shelf.Spec.SlicesInsertGrow
import Derived.Shelf.Slices.Turned
import Derived.Shelf.Slices.Reverse
import Derived.Shelf.Slices.Equal
import Derived.Ground.Names2Prog
import Derived.Shelf.Slices.Clone
import Derived.Shelf.Slices.Delete
import Derived.Shelf.Slices.Cells
import Derived.Shelf.Slices.Empties
import Derived.Shelf.Slices.Empties2
import Derived.Ground.SlgnProg
import Derived.Shelf.SlicesE.Clone
import Derived.Test.YtaieeeolaocoaaaProg
set_option linter.unusedVariables false
set_option linter.unusedSimpArgs false
set_option maxHeartbeats 8000000
namespace Go.Vc
open Go.Proofs
theorem mixed : Try.prog.follows .mixedOrders = true := by kernel_rfl
abbrev zXR : Ty := .int .i64
abbrev jFN : Ty := .pr zXR zXR
abbrev zZL : Ty := .pr .str .str
abbrev zXK : Ty := .pr zXR (.pr zXR (.pr .str (.pr (.sl zZL) (.pr .str (.pr zXR (.sl zXR))))))
def tyB (t : TypeId) : Option Ty :=
 bif Nat.beq t 3 then some zXR else bif Nat.beq t 4 then some .bool else bif Nat.beq t 5 then some .byte else bif Nat.beq t 9 then some .str else bif Nat.beq t 59 then some zZL else bif Nat.beq t 40 then some zXK else bif Nat.beq t 82 then some jFN else bif Nat.beq t 71 then some .flt else bif Nat.beq t 30 then some (.sl zXR) else none
def jJ2 (t : TypeId) : Bool := Nat.beq t 59
theorem jA1 : ∀ t, jJ2 t = true → Try.prog.stoodInHeld t = false ∧ Try.prog.eqGuardType Try.prog.depth t = false ∧ ((Try.prog.fieldsOf t).toList.all fun f => f.name != "_") = true := by
 intro t h
 obtain rfl := zXP h
 exact ⟨by kernel_rfl,by kernel_rfl,by kernel_rfl⟩
noncomputable abbrev BB : Base := { P := Try.prog,mixed := mixed,G := fun _ => True,mono := fun _ _ _ h => h,ty0 := tyB,eqs := jJ2,eqs_ok := jA1 }
set_option maxRecDepth 10000
@[simp] theorem jJX : zXM Try.prog 1 = 8 := rfl
@[simp] theorem jIG : zXM BB.P 1 = 8 := rfl
@[simp] theorem jJ6 : zXM Try.prog 2 = 8 := rfl
@[simp] theorem jGX : zXM BB.P 2 = 8 := rfl
@[simp] theorem bytes3 : zXM Try.prog 3 = 8 := rfl
@[simp] theorem zvA : zXM BB.P 3 = 8 := rfl
@[simp] theorem bytes4 : zXM Try.prog 4 = 1 := rfl
@[simp] theorem jJN : zXM BB.P 4 = 1 := rfl
@[simp] theorem bytes5 : zXM Try.prog 5 = 1 := rfl
@[simp] theorem jJK : zXM BB.P 5 = 1 := rfl
@[simp] theorem jJ4 : zXM Try.prog 6 = 1 := rfl
@[simp] theorem jGO : zXM BB.P 6 = 1 := rfl
@[simp] theorem jJ1 : zXM Try.prog 7 = 24 := rfl
@[simp] theorem jIL : zXM BB.P 7 = 24 := rfl
@[simp] theorem jJV : zXM Try.prog 8 = 24 := rfl
@[simp] theorem jJL : zXM BB.P 8 = 24 := rfl
@[simp] theorem bytes9 : zXM Try.prog 9 = 16 := rfl
@[simp] theorem jGN : zXM BB.P 9 = 16 := rfl
@[simp] theorem jGW : zXM Try.prog 10 = 16 := rfl
@[simp] theorem jF5 : zXM BB.P 10 = 16 := rfl
@[simp] theorem jHI : zXM Try.prog 11 = 16 := rfl
@[simp] theorem jE3 : zXM BB.P 11 = 16 := rfl
@[simp] theorem jG5 : zXM Try.prog 12 = 8 := rfl
@[simp] theorem jE4 : zXM BB.P 12 = 8 := rfl
@[simp] theorem jJC : zXM Try.prog 13 = 24 := rfl
@[simp] theorem jFJ : zXM BB.P 13 = 24 := rfl
@[simp] theorem jII : zXM Try.prog 14 = 24 := rfl
@[simp] theorem jF1 : zXM BB.P 14 = 24 := rfl
@[simp] theorem jIA : zXM Try.prog 15 = 8 := rfl
@[simp] theorem jD5 : zXM BB.P 15 = 8 := rfl
@[simp] theorem jH4 : zXM Try.prog 16 = 8 := rfl
@[simp] theorem jFP : zXM BB.P 16 = 8 := rfl
@[simp] theorem jI2 : zXM Try.prog 17 = 8 := rfl
@[simp] theorem jEB : zXM BB.P 17 = 8 := rfl
@[simp] theorem jJB : zXM Try.prog 18 = 8 := rfl
@[simp] theorem jEF : zXM BB.P 18 = 8 := rfl
@[simp] theorem jHE : zXM Try.prog 19 = 8 := rfl
@[simp] theorem jF3 : zXM BB.P 19 = 8 := rfl
@[simp] theorem jGT : zXM Try.prog 20 = 16 := rfl
@[simp] theorem jEJ : zXM BB.P 20 = 16 := rfl
@[simp] theorem bytes21 : zXM Try.prog 21 = 4 := rfl
@[simp] theorem jFG : zXM BB.P 21 = 4 := rfl
@[simp] theorem jGP : zXM Try.prog 22 = 24 := rfl
@[simp] theorem jE2 : zXM BB.P 22 = 24 := rfl
@[simp] theorem bytes23 : zXM Try.prog 23 = 24 := rfl
@[simp] theorem jF4 : zXM BB.P 23 = 24 := rfl
@[simp] theorem jHO : zXM Try.prog 24 = 24 := rfl
@[simp] theorem jFH : zXM BB.P 24 = 24 := rfl
@[simp] theorem bytes25 : zXM Try.prog 25 = 8 := rfl
@[simp] theorem jGB : zXM BB.P 25 = 8 := rfl
@[simp] theorem bytes26 : zXM Try.prog 26 = 8 := rfl
@[simp] theorem jD9 : zXM BB.P 26 = 8 := rfl
@[simp] theorem bytes27 : zXM Try.prog 27 = 8 := rfl
@[simp] theorem jGA : zXM BB.P 27 = 8 := rfl
@[simp] theorem bytes28 : zXM Try.prog 28 = 8 := rfl
@[simp] theorem jEC : zXM BB.P 28 = 8 := rfl
@[simp] theorem jJM : zXM Try.prog 29 = 8 := rfl
@[simp] theorem jGG : zXM BB.P 29 = 8 := rfl
@[simp] theorem bytes30 : zXM Try.prog 30 = 24 := rfl
@[simp] theorem jFD : zXM BB.P 30 = 24 := rfl
@[simp] theorem jHN : zXM Try.prog 31 = 8 := rfl
@[simp] theorem jGE : zXM BB.P 31 = 8 := rfl
@[simp] theorem jJE : zXM Try.prog 32 = 8 := rfl
@[simp] theorem jEL : zXM BB.P 32 = 8 := rfl
@[simp] theorem jJR : zXM Try.prog 33 = 8 := rfl
@[simp] theorem jFF : zXM BB.P 33 = 8 := rfl
@[simp] theorem jH1 : zXM Try.prog 34 = 8 := rfl
@[simp] theorem jEK : zXM BB.P 34 = 8 := rfl
@[simp] theorem jIU : zXM Try.prog 36 = 8 := rfl
@[simp] theorem jEA : zXM BB.P 36 = 8 := rfl
@[simp] theorem jIV : zXM Try.prog 37 = 8 := rfl
@[simp] theorem jE6 : zXM BB.P 37 = 8 := rfl
@[simp] theorem jH5 : zXM Try.prog 38 = 24 := rfl
@[simp] theorem jEO : zXM BB.P 38 = 24 := rfl
@[simp] theorem jGS : zXM Try.prog 39 = 104 := rfl
@[simp] theorem jFT : zXM BB.P 39 = 104 := rfl
@[simp] theorem zuD : zXM Try.prog 40 = 104 := rfl
@[simp] theorem zqR : zXM BB.P 40 = 104 := rfl
@[simp] theorem jG6 : zXM Try.prog 41 = 8 := rfl
@[simp] theorem jFO : zXM BB.P 41 = 8 := rfl
@[simp] theorem jJP : zXM Try.prog 42 = 8 := rfl
@[simp] theorem jGK : zXM BB.P 42 = 8 := rfl
@[simp] theorem jHQ : zXM Try.prog 43 = 8 := rfl
@[simp] theorem jFA : zXM BB.P 43 = 8 := rfl
@[simp] theorem jG8 : zXM Try.prog 44 = 8 := rfl
@[simp] theorem jEE : zXM BB.P 44 = 8 := rfl
@[simp] theorem jHK : zXM Try.prog 45 = 8 := rfl
@[simp] theorem jFE : zXM BB.P 45 = 8 := rfl
@[simp] theorem jH3 : zXM Try.prog 46 = 8 := rfl
@[simp] theorem jGI : zXM BB.P 46 = 8 := rfl
@[simp] theorem jIT : zXM Try.prog 47 = 8 := rfl
@[simp] theorem jFI : zXM BB.P 47 = 8 := rfl
@[simp] theorem jID : zXM Try.prog 48 = 8 := rfl
@[simp] theorem jD2 : zXM BB.P 48 = 8 := rfl
@[simp] theorem jGZ : zXM Try.prog 49 = 8 := rfl
@[simp] theorem jE8 : zXM BB.P 49 = 8 := rfl
@[simp] theorem jHD : zXM Try.prog 50 = 8 := rfl
@[simp] theorem jEM : zXM BB.P 50 = 8 := rfl
@[simp] theorem jHY : zXM Try.prog 51 = 8 := rfl
@[simp] theorem jFW : zXM BB.P 51 = 8 := rfl
@[simp] theorem jH9 : zXM Try.prog 53 = 8 := rfl
@[simp] theorem jEP : zXM BB.P 53 = 8 := rfl
@[simp] theorem jHX : zXM Try.prog 54 = 8 := rfl
@[simp] theorem jGF : zXM BB.P 54 = 8 := rfl
@[simp] theorem jHR : zXM Try.prog 55 = 24 := rfl
@[simp] theorem jFZ : zXM BB.P 55 = 24 := rfl
@[simp] theorem jHM : zXM Try.prog 56 = 8 := rfl
@[simp] theorem jEH : zXM BB.P 56 = 8 := rfl
@[simp] theorem jG2 : zXM Try.prog 57 = 8 := rfl
@[simp] theorem jGD : zXM BB.P 57 = 8 := rfl
@[simp] theorem jIJ : zXM Try.prog 58 = 32 := rfl
@[simp] theorem jEQ : zXM BB.P 58 = 32 := rfl
@[simp] theorem zv9 : zXM Try.prog 59 = 32 := rfl
@[simp] theorem zqM : zXM BB.P 59 = 32 := rfl
@[simp] theorem jI9 : zXM Try.prog 60 = 8 := rfl
@[simp] theorem jD0 : zXM BB.P 60 = 8 := rfl
@[simp] theorem jHW : zXM Try.prog 61 = 8 := rfl
@[simp] theorem jD8 : zXM BB.P 61 = 8 := rfl
@[simp] theorem jIM : zXM Try.prog 62 = 8 := rfl
@[simp] theorem jFY : zXM BB.P 62 = 8 := rfl
@[simp] theorem jIN : zXM Try.prog 63 = 8 := rfl
@[simp] theorem jEV : zXM BB.P 63 = 8 := rfl
@[simp] theorem jHL : zXM Try.prog 64 = 8 := rfl
@[simp] theorem jFV : zXM BB.P 64 = 8 := rfl
@[simp] theorem jHA : zXM Try.prog 65 = 8 := rfl
@[simp] theorem jEG : zXM BB.P 65 = 8 := rfl
@[simp] theorem jG0 : zXM Try.prog 66 = 8 := rfl
@[simp] theorem jEN : zXM BB.P 66 = 8 := rfl
@[simp] theorem jG9 : zXM Try.prog 67 = 8 := rfl
@[simp] theorem jGL : zXM BB.P 67 = 8 := rfl
@[simp] theorem jGU : zXM Try.prog 68 = 8 := rfl
@[simp] theorem jFL : zXM BB.P 68 = 8 := rfl
@[simp] theorem jHF : zXM Try.prog 69 = 8 := rfl
@[simp] theorem jES : zXM BB.P 69 = 8 := rfl
@[simp] theorem jIF : zXM Try.prog 70 = 8 := rfl
@[simp] theorem jE1 : zXM BB.P 70 = 8 := rfl
@[simp] theorem jGR : zXM Try.prog 71 = 8 := rfl
@[simp] theorem jFX : zXM BB.P 71 = 8 := rfl
@[simp] theorem jJA : zXM Try.prog 72 = 32 := rfl
@[simp] theorem jER : zXM BB.P 72 = 32 := rfl
@[simp] theorem jIZ : zXM Try.prog 73 = 32 := rfl
@[simp] theorem jFS : zXM BB.P 73 = 32 := rfl
@[simp] theorem jG7 : zXM Try.prog 75 = 8 := rfl
@[simp] theorem jE5 : zXM BB.P 75 = 8 := rfl
@[simp] theorem jI8 : zXM Try.prog 76 = 8 := rfl
@[simp] theorem jE0 : zXM BB.P 76 = 8 := rfl
@[simp] theorem jHB : zXM Try.prog 77 = 8 := rfl
@[simp] theorem jFK : zXM BB.P 77 = 8 := rfl
@[simp] theorem jHS : zXM Try.prog 78 = 8 := rfl
@[simp] theorem jFM : zXM BB.P 78 = 8 := rfl
@[simp] theorem jJT : zXM Try.prog 79 = 8 := rfl
@[simp] theorem jEZ : zXM BB.P 79 = 8 := rfl
@[simp] theorem jJO : zXM Try.prog 80 = 8 := rfl
@[simp] theorem jE9 : zXM BB.P 80 = 8 := rfl
@[simp] theorem jGM : zXM Try.prog 81 = 16 := rfl
@[simp] theorem jFR : zXM BB.P 81 = 16 := rfl
@[simp] theorem jHJ : zXM Try.prog 82 = 16 := rfl
@[simp] theorem jD1 : zXM BB.P 82 = 16 := rfl
@[simp] theorem jIQ : zXM Try.prog 83 = 24 := rfl
@[simp] theorem jFU : zXM BB.P 83 = 24 := rfl
@[simp] theorem jI7 : zXM Try.prog 84 = 8 := rfl
@[simp] theorem jGJ : zXM BB.P 84 = 8 := rfl
@[simp] theorem jIX : zXM Try.prog 85 = 8 := rfl
@[simp] theorem jF2 : zXM BB.P 85 = 8 := rfl
@[simp] theorem jG3 : zXM Try.prog 86 = 8 := rfl
@[simp] theorem jEY : zXM BB.P 86 = 8 := rfl
@[simp] theorem jH0 : zXM Try.prog 87 = 40 := rfl
@[simp] theorem jGH : zXM BB.P 87 = 40 := rfl
@[simp] theorem jHG : zXM Try.prog 88 = 40 := rfl
@[simp] theorem jF0 : zXM BB.P 88 = 40 := rfl
@[simp] theorem jHZ : zXM Try.prog 92 = 8 := rfl
@[simp] theorem jGC : zXM BB.P 92 = 8 := rfl
@[simp] theorem jJS : zXM Try.prog 93 = 4 := rfl
@[simp] theorem jD4 : zXM BB.P 93 = 4 := rfl
@[simp] theorem jIO : zXM Try.prog 94 = 1 := rfl
@[simp] theorem jE7 : zXM BB.P 94 = 1 := rfl
@[simp] theorem jH7 : zXM Try.prog 95 = 1 := rfl
@[simp] theorem jF6 : zXM BB.P 95 = 1 := rfl
@[simp] theorem jJG : zXM Try.prog 96 = 8 := rfl
@[simp] theorem jD7 : zXM BB.P 96 = 8 := rfl
@[simp] theorem jI1 : zXM Try.prog 97 = 8 := rfl
@[simp] theorem jED : zXM BB.P 97 = 8 := rfl
@[simp] theorem jI3 : zXM Try.prog 98 = 4 := rfl
@[simp] theorem jEI : zXM BB.P 98 = 4 := rfl
@[simp] theorem jIW : zXM Try.prog 99 = 4 := rfl
@[simp] theorem jEX : zXM BB.P 99 = 4 := rfl
@[simp] theorem jF9 : zXM Try.prog 100 = 48 := rfl
@[simp] theorem jCL : zXM BB.P 100 = 48 := rfl
@[simp] theorem jET : zXM Try.prog 101 = 48 := rfl
@[simp] theorem jCS : zXM BB.P 101 = 48 := rfl
@[simp] theorem jF8 : zXM Try.prog 102 = 8 := rfl
@[simp] theorem jCT : zXM BB.P 102 = 8 := rfl
theorem jDI (x : UInt8) : 0 ≤ (x.toNat : Int) ∧ (x.toNat : Int) ≤ 255 := by have := x.toNat_lt;omega
theorem obA {p : Prop} (h : p := by first|exact Ob.mk (jDI _)|(refine Ob.mk ?_;first|exact True.intro|assumption|omega|(simp only [ZA,ZB,ZC,ZD,ZE,ZF,ZG,ZH,ZI,ZJ,ZK,ZL,ZM,ZN,ZO,Int.toNat_natCast,UInt8.ofNat_toNat,cast_eq] at *;omega)|(show (_:Int) = _;omega)|(show zp5 _ = _;with_unfolding_all rfl)|((first|show (_:Nat) ≤ _|show (_:Nat) ≤ _ ∧ (_:Nat) ≤ _|show (_:Int) ≤ _ ∧ (_:Int) ≤ _ ∧ (_:Int) ≤ _ ∧ (_:Int) ≤ _);(simp <;> omega)))|(show (_:Int) = _;omega)|(show zp5 _ = _;with_unfolding_all rfl)|((first|show (_:Nat) ≤ _|show (_:Nat) ≤ _ ∧ (_:Nat) ≤ _|show (_:Int) ≤ _ ∧ (_:Int) ≤ _ ∧ (_:Int) ≤ _ ∧ (_:Int) ≤ _);(simp <;> omega))) : p := h
theorem vcA {p : Prop} (h : p := by (repeat' ((conv => whnf);first|(with_reducible first|rfl|exact zXT|exact zXS)|exact True.intro|intro _|refine WA ?_ ?_|refine WF ?_|refine W1 rfl ?_ ?_|refine W2 rfl ?_ ?_|refine W3 rfl ?_ ?_|refine W4 ?_ ?_|refine W5 rfl ?_ ?_|refine W6 ?_ ?_|refine WN ?_|refine X1 (W1 rfl ?_ ?_)|refine X1 (W2 rfl ?_ ?_)|refine X2 (W7 rfl ?_ ?_)|refine X3 (W7 rfl ?_ ?_)|refine X4 (W7 rfl ?_ ?_)|refine X5 (W7 rfl ?_ ?_)));(all_goals (try (conv => whnf)));(all_goals (try first|exact obA|refine Ob.mk ?_));(all_goals (try rfl))) : p := h
end Go.Vc

namespace Go.Vc
open Go.Proofs
set_option maxRecDepth 10000
abbrev zXN := zXK.T
abbrev zXN.up (n : zXN) : Int := n.2.2.2.2.2.1
abbrev zXN.kids (n : zXN) : List Int := n.2.2.2.2.2.2
def isT (l : List zXN) (i : Int) : Bool := decide (0 ≤ i) && decide (i < l.length)
instance f37 (l : List zXN) (i : Int) : Fn BB 41 [.agg [.rd zXK l],.int .i64 i] True (.bool (isT l i)) := by
 refine Fn.intro (N := 14) [0,1,2,4] [] Try.call41 Try.func41 rfl rfl (by kernel_rfl) (fun hpre => ?_)
 repeat' ((conv => whnf);first|(with_reducible first|rfl|exact zXT|exact zXS)|exact True.intro|intro _|refine WA ?_ ?_|refine WF ?_|refine W1 rfl ?_ ?_|refine W2 rfl ?_ ?_|refine W3 rfl ?_ ?_|refine W4 ?_ ?_|refine W5 rfl ?_ ?_|refine W6 ?_ ?_|refine WN ?_|refine X1 (W1 rfl ?_ ?_)|refine X1 (W2 rfl ?_ ?_)|refine X2 (W7 rfl ?_ ?_)|refine X3 (W7 rfl ?_ ?_)|refine X4 (W7 rfl ?_ ?_)|refine X5 (W7 rfl ?_ ?_))
 all_goals (try (conv => whnf))
 all_goals (simp_all [isT];done)
end Go.Vc

namespace Go.Vc
set_option autoImplicit false
abbrev Ev := Nat × Int × Nat × Bool
def unseen (s : List Bool) : Nat := s.count false
def okK (s : List Bool) (k : Int) : Bool := decide (0 ≤ k) && !(s.getD k.toNat true)
theorem zYG {s : List Bool} {k : Int} (h : okK s k = true) : 0 ≤ k ∧ k.toNat < s.length ∧ s[k.toNat]? = some false := by
 unfold okK at h
 simp only [Bool.and_eq_true,decide_eq_true_eq,Bool.not_eq_true'] at h
 have hl : k.toNat < s.length := by
  rcases Nat.lt_or_ge k.toNat s.length with q | q
  ·exact q
  ·have := h.2;simp [List.getD,List.getElem?_eq_none q] at this
 refine ⟨h.1,hl,?_⟩
 have := h.2
 rw [List.getD_eq_getElem?_getD,List.getElem?_eq_getElem hl] at this
 rw [List.getElem?_eq_getElem hl]
 simpa using this
theorem zYE {s : List Bool} {k : Nat} (h : s[k]? = some false) : unseen (s.set k true) + 1 = unseen s := by
 unfold unseen
 induction s generalizing k with
 | nil => cases h
 | cons x r ih =>
  cases k with
  | zero => simp at h;subst h;simp
  | succ k =>
   have := ih (k := k) (by simpa using h)
   simp only [List.set_cons_succ,List.count_cons]
   omega
def dfs (K : Nat → List Int) (s : List Bool) (i j c : Nat) : List Ev × List Bool × Nat :=
 if h : j < (K i).length then
  if hk : okK s ((K i).getD j 0) = true then
   let r1 := dfs K (s.set ((K i).getD j 0).toNat true) ((K i).getD j 0).toNat 0 (c + 1)
   if hg : unseen r1.2.1 < unseen s then
    let r2 := dfs K r1.2.1 i (j + 1) r1.2.2
    ((((K i).getD j 0).toNat,(i : Int),c,false) :: (r1.1 ++ r2.1),r2.2.1,r2.2.2)
   else ([],s,c)
  else dfs K s i (j + 1) c
 else ([(i,0,c,true)],s,c + 1)
termination_by (unseen s,(K i).length - j)
decreasing_by
 ·have := zYE (zYG hk).2.2
  exact Prod.Lex.left _ _ (by omega)
 ·exact Prod.Lex.left _ _ hg
 ·exact Prod.Lex.right _ (by omega)
variable {K : Nat → List Int}
theorem zZ5 {s : List Bool} {i j c : Nat} (h : ¬ j < (K i).length) : dfs K s i j c = ([(i,0,c,true)],s,c + 1) := by
 rw [dfs,dif_neg h]
theorem zZ7 {s : List Bool} {i j c : Nat} (h : j < (K i).length) (hk : okK s ((K i).getD j 0) = false) : dfs K s i j c = dfs K s i (j + 1) c := by
 rw [dfs,dif_pos h,dif_neg (by rw [hk];decide)]
theorem zvK {s : List Bool} {i j c : Nat} (h : j < (K i).length) (hk : okK s ((K i).getD j 0) = true) : dfs K s i j c =
  (let r1 := dfs K (s.set ((K i).getD j 0).toNat true) ((K i).getD j 0).toNat 0 (c + 1)
   if hg : unseen r1.2.1 < unseen s then
    let r2 := dfs K r1.2.1 i (j + 1) r1.2.2
    ((((K i).getD j 0).toNat,(i : Int),c,false) :: (r1.1 ++ r2.1),r2.2.1,r2.2.2)
   else ([],s,c)) := by
 rw [dfs,dif_pos h,dif_pos hk]
theorem zqN {P : List Bool → Nat → Nat → Nat → Prop}
  (h : ∀ s i j c,(∀ s' i' j' c',(unseen s' < unseen s ∨ (unseen s' = unseen s ∧ (K i').length - j' < (K i).length - j)) → P s' i' j' c') → P s i j c) : ∀ s i j c,P s i j c := by
 have main : ∀ a b s i j c,unseen s = a → (K i).length - j = b → P s i j c := by
  intro a
  induction a using Nat.strongRecOn with
  | ind a iha =>
   intro b
   induction b using Nat.strongRecOn with
   | ind b ihb =>
    intro s i j c ha hb
    refine h s i j c fun s' i' j' c' q => ?_
    rcases q with q | ⟨q1,q2⟩
    ·exact iha (unseen s') (by omega) _ s' i' j' c' rfl rfl
    ·exact ihb _ (by omega) s' i' j' c' (by omega) rfl
 exact fun s i j c => main _ _ s i j c rfl rfl
theorem zuM : ∀ (s : List Bool) (i j c : Nat),unseen (dfs K s i j c).2.1 ≤ unseen s := by
 refine zqN (K := K) fun s i j c ih => ?_
 by_cases h : j < (K i).length
 ·cases hk : okK s ((K i).getD j 0) with
  | false => rw [zZ7 h hk];exact ih s i (j + 1) c (.inr ⟨rfl,by omega⟩)
  | true =>
   rw [zvK h hk]
   dsimp only
   split
   ·rename_i hg
    have := ih _ i (j + 1) (dfs K (s.set ((K i).getD j 0).toNat true) ((K i).getD j 0).toNat 0 (c + 1)).2.2 (.inl hg)
    exact Nat.le_trans this (Nat.le_of_lt hg)
   ·exact Nat.le_refl _
 ·rw [zZ5 h];exact Nat.le_refl _
theorem zmF {s : List Bool} {k : Nat} (hk : s[k]? = some false) (c : Nat) : unseen (dfs K (s.set k true) k 0 c).2.1 < unseen s := by
 have h1 := zuM (K := K) (s.set k true) k 0 c
 have h2 := zYE hk
 omega
theorem zcK {s : List Bool} {i j c : Nat} (h : j < (K i).length) (hk : okK s ((K i).getD j 0) = true) : dfs K s i j c =
    ((((K i).getD j 0).toNat,(i : Int),c,false) :: ((dfs K (s.set ((K i).getD j 0).toNat true) ((K i).getD j 0).toNat 0 (c + 1)).1 ++
      (dfs K (dfs K (s.set ((K i).getD j 0).toNat true) ((K i).getD j 0).toNat 0 (c + 1)).2.1 i (j + 1) (dfs K (s.set ((K i).getD j 0).toNat true) ((K i).getD j 0).toNat 0 (c + 1)).2.2).1),
     (dfs K (dfs K (s.set ((K i).getD j 0).toNat true) ((K i).getD j 0).toNat 0 (c + 1)).2.1 i (j + 1) (dfs K (s.set ((K i).getD j 0).toNat true) ((K i).getD j 0).toNat 0 (c + 1)).2.2).2.1,
     (dfs K (dfs K (s.set ((K i).getD j 0).toNat true) ((K i).getD j 0).toNat 0 (c + 1)).2.1 i (j + 1) (dfs K (s.set ((K i).getD j 0).toNat true) ((K i).getD j 0).toNat 0 (c + 1)).2.2).2.2) := by
  rw [zvK h hk]
  dsimp only
  rw [dif_pos (zmF (zYG hk).2.2 (c + 1))]
theorem zc3 {P : List Bool → Nat → Nat → Nat → Prop}
  (he : ∀ s i j c,¬ j < (K i).length → P s i j c)
  (hb : ∀ s i j c,j < (K i).length → okK s ((K i).getD j 0) = false → P s i (j + 1) c → P s i j c)
  (ho : ∀ s i j c,j < (K i).length → okK s ((K i).getD j 0) = true → P (s.set ((K i).getD j 0).toNat true) ((K i).getD j 0).toNat 0 (c + 1) →
   (P (dfs K (s.set ((K i).getD j 0).toNat true) ((K i).getD j 0).toNat 0 (c + 1)).2.1 i (j + 1) (dfs K (s.set ((K i).getD j 0).toNat true) ((K i).getD j 0).toNat 0 (c + 1)).2.2) → P s i j c) :
  ∀ s i j c,P s i j c := by
 refine zqN (K := K) fun s i j c ih => ?_
 by_cases h : j < (K i).length
 ·cases hk : okK s ((K i).getD j 0) with
  | false => exact hb s i j c h hk (ih s i (j + 1) c (.inr ⟨rfl,by omega⟩))
  | true =>
   have h2 := zYE (zYG hk).2.2
   exact ho s i j c h hk (ih _ _ _ _ (.inl (by omega))) (ih _ _ _ _ (.inl (zmF (zYG hk).2.2 (c + 1))))
 ·exact he s i j c h
def zfL (K : Nat → List Int) : List (Nat × Nat) → List Bool → Nat → List Ev
 | [],_,_ => []
 | (i,j) :: rest,s,c => (dfs K s i j c).1 ++ zfL K rest (dfs K s i j c).2.1 (dfs K s i j c).2.2
theorem zrB {s : List Bool} {i j c : Nat} {rest : List (Nat × Nat)} (h : ¬ j < (K i).length) : zfL K ((i,j) :: rest) s c = (i,0,c,true) :: zfL K rest s (c + 1) := by
 rw [zfL,zZ5 h];rfl
theorem zrE {s : List Bool} {i j c : Nat} {rest : List (Nat × Nat)} (h : j < (K i).length) (hk : okK s ((K i).getD j 0) = false) : zfL K ((i,j) :: rest) s c = zfL K ((i,j + 1) :: rest) s c := by
 rw [zfL,zfL,zZ7 h hk]
theorem ztY {s : List Bool} {i j c : Nat} {rest : List (Nat × Nat)} (h : j < (K i).length) (hk : okK s ((K i).getD j 0) = true) :
  zfL K ((i,j) :: rest) s c = (((K i).getD j 0).toNat,(i : Int),c,false) :: zfL K ((((K i).getD j 0).toNat,0) :: (i,j + 1) :: rest) (s.set ((K i).getD j 0).toNat true) (c + 1) := by
 rw [zfL,zcK h hk,zfL,zfL]
 simp only [List.cons_append,List.append_assoc]
def zlI (K : Nat → List Int) (n : Nat) : List Ev := if n = 0 then [] else (0, -1,0,false) :: zfL K [(0,0)] ((List.replicate n false).set 0 true) 1
end Go.Vc

namespace Go.Vc
open Go.Proofs
set_option autoImplicit false
def zzS (n : zXN) (k : Int) : zXN := (n.1,n.2.1,n.2.2.1,n.2.2.2.1,n.2.2.2.2.1,n.2.2.2.2.2.1,n.2.2.2.2.2.2 ++ [k])
def mkN (n : zXN) (up : Int) : zXN := (n.1,n.2.1,n.2.2.1,n.2.2.2.1,n.2.2.2.2.1,up,[])
def zX8 (out : List zXN) (p : Nat) (k : Int) : List zXN := out.set p (zzS (out.getD p zXK.dflt) k)
structure PSt where
 out : List zXN
 P : List Nat
def PSt.step (t : List zXN) (x : PSt) (e : Ev) : PSt :=
 match e.2.2.2,x.P with
 | true,P => { out := x.out,P := P.tail }
 | false,[] => { out := x.out ++ [mkN (t.getD e.1 zXK.dflt) (-1)],P := [x.out.length] }
 | false,p :: P => { out := zX8 x.out p x.out.length ++ [mkN (t.getD e.1 zXK.dflt) p],P := x.out.length :: p :: P }
def PSt.run (t : List zXN) : PSt → List Ev → PSt
 | x,[] => x
 | x,e :: l => PSt.run t (x.step t e) l
theorem zdC (t : List zXN) : ∀ (l l' : List Ev) (x : PSt),x.run t (l ++ l') = (x.run t l).run t l' := by
 intro l
 induction l with
 | nil => intro l' x;rfl
 | cons e l ih => intro l' x;exact ih l' (x.step t e)
def pS (t : List zXN) (K : Nat → List Int) (out : List zXN) (s : List Bool) (p i j : Nat) : List zXN := (({ out := out,P := [p] } : PSt).run t (dfs K s i j 0).1).out
def sS (K : Nat → List Int) (s : List Bool) (i j : Nat) : List Bool := (dfs K s i j 0).2.1
variable {K : Nat → List Int} {t : List zXN}
theorem zYI (out : List zXN) (p : Nat) (k : Int) : (zX8 out p k).length = out.length := by unfold zX8;exact List.length_set ..
theorem jDR : ∀ (s : List Bool) (i j c : Nat),∀ c',(dfs K s i j c).2.1 = (dfs K s i j c').2.1 ∧ ∀ x : PSt,x.run t (dfs K s i j c).1 = x.run t (dfs K s i j c').1 := by
 refine zc3 (K := K) ?_ ?_ ?_
 ·intro s i j c h c';rw [zZ5 h,zZ5 h];exact ⟨rfl,fun x => rfl⟩
 ·intro s i j c h hk ih c';rw [zZ7 h hk,zZ7 h hk];exact ih c'
 ·intro s i j c h hk i1 i2 c'
  rw [zcK h hk,zcK h hk]
  dsimp only
  obtain ⟨a1,a2⟩ := i1 (c' + 1)
  rw [← a1]
  obtain ⟨b1,b2⟩ := i2 (dfs K (s.set ((K i).getD j 0).toNat true) ((K i).getD j 0).toNat 0 (c' + 1)).2.2
  refine ⟨b1,fun x => ?_⟩
  show ((x.step t _).run t _) = ((x.step t _).run t _)
  rw [zdC,zdC]
  have e : x.step t (((K i).getD j 0).toNat,(i : Int),c,false) = x.step t (((K i).getD j 0).toNat,(i : Int),c',false) := rfl
  rw [e,a2,b2]
theorem zrJ : ∀ (s : List Bool) (i j c : Nat),∀ (out : List zXN) (p : Nat) (P : List Nat),
  ({ out := out,P := p :: P } : PSt).run t (dfs K s i j c).1 = { out := (({ out := out,P := [p] } : PSt).run t (dfs K s i j c).1).out,P := P } := by
 refine zc3 (K := K) ?_ ?_ ?_
 ·intro s i j c h out p P;rw [zZ5 h];rfl
 ·intro s i j c h hk ih out p P;rw [zZ7 h hk];exact ih out p P
 ·intro s i j c h hk i1 i2 out p P
  rw [zcK h hk]
  dsimp only
  have e : ∀ Q,({ out := out,P := p :: Q } : PSt).step t (((K i).getD j 0).toNat,(i : Int),c,false) =
   { out := zX8 out p out.length ++ [mkN (t.getD ((K i).getD j 0).toNat zXK.dflt) p],P := out.length :: p :: Q } := fun Q => rfl
  show PSt.run t (PSt.step t _ _) _ = { out := (PSt.run t (PSt.step t _ _) _).out,P := P }
  rw [e,e,zdC,zdC,i1 _ out.length (p :: P),i1 _ out.length [p],i2 _ p P]
theorem zv6 {out s p i j} (h : ¬ j < (K i).length) : pS t K out s p i j = out ∧ sS K s i j = s := by
 unfold pS sS;rw [zZ5 h];exact ⟨rfl,rfl⟩
theorem zvM {out s p i j} (h : j < (K i).length) (hk : okK s ((K i).getD j 0) = false) : pS t K out s p i j = pS t K out s p i (j + 1) ∧ sS K s i j = sS K s i (j + 1) := by
 unfold pS sS;rw [zZ7 h hk];exact ⟨rfl,rfl⟩
def zg1 (t : List zXN) (K : Nat → List Int) (out : List zXN) (s : List Bool) (k : Nat) (up : Int) : List zXN := pS t K (out ++ [mkN (t.getD k zXK.dflt) up]) (s.set k true) out.length k 0
def zqY (K : Nat → List Int) (s : List Bool) (k : Nat) : List Bool := sS K (s.set k true) k 0
theorem jAN {out s p i j} (h : j < (K i).length) (hk : okK s ((K i).getD j 0) = true) :
    pS t K out s p i j = pS t K (zg1 t K (zX8 out p out.length) s ((K i).getD j 0).toNat p) (zqY K s ((K i).getD j 0).toNat) p i (j + 1) ∧ sS K s i j = sS K (zqY K s ((K i).getD j 0).toNat) i (j + 1) := by
  have a := fun c => jDR (t := t) (K := K) (s.set ((K i).getD j 0).toNat true) ((K i).getD j 0).toNat 0 c 0
  unfold pS sS zg1 zqY pS sS
  rw [zcK h hk]
  dsimp only
  rw [(a 1).1]
  have b := fun c => jDR (t := t) (K := K) (dfs K (s.set ((K i).getD j 0).toNat true) ((K i).getD j 0).toNat 0 0).2.1 i (j + 1) c 0
  refine ⟨?_,(b _).1⟩
  show (PSt.run t (PSt.step t _ _) _).out = _
  have e : ({ out := out,P := [p] } : PSt).step t (((K i).getD j 0).toNat,(i : Int),0,false) =
      { out := zX8 out p out.length ++ [mkN (t.getD ((K i).getD j 0).toNat zXK.dflt) p],P := out.length :: [p] } := rfl
  rw [e,zdC,zrJ,(b _).2,(a 1).2,zYI]
theorem jCY : ∀ (s : List Bool) (i j c : Nat),∀ (out : List zXN) (p : Nat),
  out.length ≤ (({ out := out,P := [p] } : PSt).run t (dfs K s i j c).1).out.length ∧ (({ out := out,P := [p] } : PSt).run t (dfs K s i j c).1).out.length + unseen (dfs K s i j c).2.1 = out.length + unseen s ∧
   (∀ q,q < out.length → q ≠ p → (({ out := out,P := [p] } : PSt).run t (dfs K s i j c).1).out.getD q zXK.dflt = out.getD q zXK.dflt) ∧ (dfs K s i j c).2.1.length = s.length := by
 refine zc3 (K := K) ?_ ?_ ?_
 ·intro s i j c h out p;rw [zZ5 h];exact ⟨Nat.le_refl _,rfl,fun q _ _ => rfl,rfl⟩
 ·intro s i j c h hk ih out p;rw [zZ7 h hk];exact ih out p
 ·intro s i j c h hk i1 i2 out p
  rw [zcK h hk]
  dsimp only
  have e : ({ out := out,P := [p] } : PSt).step t (((K i).getD j 0).toNat,(i : Int),c,false) =
   { out := zX8 out p out.length ++ [mkN (t.getD ((K i).getD j 0).toNat zXK.dflt) p],P := out.length :: [p] } := rfl
  have er : ∀ l,({ out := out,P := [p] } : PSt).run t ((((K i).getD j 0).toNat,(i : Int),c,false) :: l) =
   ({ out := zX8 out p out.length ++ [mkN (t.getD ((K i).getD j 0).toNat zXK.dflt) p],P := out.length :: [p] } : PSt).run t l := fun l => by rw [← e];rfl
  have er2 : ∀ l1 l2 c1,l1 = (dfs K (s.set ((K i).getD j 0).toNat true) ((K i).getD j 0).toNat 0 c1).1 → (({ out := out,P := [p] } : PSt).run t ((((K i).getD j 0).toNat,(i : Int),c,false) :: (l1 ++ l2))).out =
   (({ out := (({ out := zX8 out p out.length ++ [mkN (t.getD ((K i).getD j 0).toNat zXK.dflt) p],P := [out.length] } : PSt).run t l1).out,P := [p] } : PSt).run t l2).out := fun l1 l2 c1 hl => by
   rw [er,zdC,hl,zrJ]
  rw [er2 _ _ _ rfl]
  have hl : (zX8 out p out.length ++ [mkN (t.getD ((K i).getD j 0).toNat zXK.dflt) p]).length = out.length + 1 := by rw [List.length_append,zYI];rfl
  have hu := zYE (zYG hk).2.2
  obtain ⟨a1,a2,a3,a4⟩ := i1 (zX8 out p out.length ++ [mkN (t.getD ((K i).getD j 0).toNat zXK.dflt) p]) out.length
  rw [hl] at a1 a2 a3
  generalize (({ out := zX8 out p out.length ++ [mkN (t.getD ((K i).getD j 0).toNat zXK.dflt) p],P := [out.length] } : PSt).run t (dfs K (s.set ((K i).getD j 0).toNat true) ((K i).getD j 0).toNat 0 (c + 1)).1).out = y at *
  obtain ⟨b1,b2,b3,b4⟩ := i2 y p
  refine ⟨by omega,by omega,fun q hq hp => ?_,?_⟩
  ·rw [b3 q (by omega) hp,a3 q (by omega) (by omega)]
   unfold zX8
   rw [List.getD_eq_getElem?_getD,List.getElem?_append_left (by rw [List.length_set];exact hq),List.getElem?_set,if_neg (fun h => hp h.symm),List.getD_eq_getElem?_getD]
  ·rw [b4,a4,List.length_set]
theorem zkK (out : List zXN) (s : List Bool) (k : Nat) (up : Int) : out.length + 1 ≤ (zg1 t K out s k up).length ∧ (zg1 t K out s k up).length + unseen (zqY K s k) = out.length + 1 + unseen (s.set k true) ∧
  (∀ q,q < out.length → (zg1 t K out s k up).getD q zXK.dflt = out.getD q zXK.dflt) ∧ (zqY K s k).length = s.length := by
 obtain ⟨h1,h2,h3,h4⟩ := jCY (t := t) (K := K) (s.set k true) k 0 0 (out ++ [mkN (t.getD k zXK.dflt) up]) out.length
 rw [List.length_append,List.length_singleton] at h1 h2 h3
 refine ⟨h1,h2,fun q hq => ?_,by rw [List.length_set] at h4;exact h4⟩
 show (PSt.run t _ _).out.getD q _ = _
 rw [h3 q (by omega) (by omega),List.getD_eq_getElem?_getD,List.getElem?_append_left hq,List.getD_eq_getElem?_getD]
end Go.Vc

namespace Go.Vc
open Go.Proofs
set_option maxRecDepth 10000
theorem take_snoc {α : Type} (l : List α) (i : Nat) (d : α) (h : i < l.length) : l.take (i + 1) = l.take i ++ [l.getD i d] := by
 rw [List.take_succ_eq_append_getElem h];simp [List.getD,List.getElem?_eq_getElem h]
theorem zrW {α : Type} (p : α → Bool) (l : List α) (i : Nat) (d : α) (h : i < l.length) : (l.take (i + 1)).all p = ((l.take i).all p && p (l.getD i d)) := by
 rw [take_snoc l i d h];simp
theorem zgA {α : Type} {p : α → Bool} {l : List α} {i : Nat} {d : α} (h : i < l.length) (hp : p (l.getD i d) = false) : l.all p = false := by
 rw [List.all_eq_false]
 refine ⟨l.getD i d,?_,by rw [hp];simp⟩
 simp [List.getD,List.getElem?_eq_getElem h]
abbrev zbZ := zZL.T
def zfK (l : List zbZ) : Bool := decide (l.length ≤ 14) && l.all fun a => decide (a.1.length ≤ 40) && decide (a.2.length ≤ 150)
instance f33 (l : List zbZ) : Fn BB 39 [.rd zZL l] True (.bool (zfK l)) := by
 refine Fn.intro (N := 25) [0,2,4,7,8,9,10,11,23] [] Try.call39 Try.func39 rfl rfl (by kernel_rfl) (fun hpre => ?_)
 repeat' ((conv => whnf);first|(with_reducible first|rfl|exact zXT|exact zXS)|exact True.intro|intro _|refine WA ?_ ?_|refine WF ?_|refine W1 rfl ?_ ?_|refine W2 rfl ?_ ?_|refine W3 rfl ?_ ?_|refine W4 ?_ ?_|refine W5 rfl ?_ ?_|refine W6 ?_ ?_|refine WN ?_|refine X1 (W1 rfl ?_ ?_)|refine X1 (W2 rfl ?_ ?_)|refine X2 (W7 rfl ?_ ?_)|refine X3 (W7 rfl ?_ ?_)|refine X4 (W7 rfl ?_ ?_)|refine X5 (W7 rfl ?_ ?_))
 all_goals (try (conv => whnf))
 ·simp only [zfK,decide_eq_true_eq] at *
  rw [decide_eq_false (by omega)];rfl
 ·refine LoopStop.mk (α := Nat) (fun i => [(10,.int .i64 i)]) (fun _ => []) 0 (fun i => i ≤ l.length ∧ (l.take i).all (fun a => decide (a.1.length ≤ 40) && decide (a.2.length ≤ 150)) = true) (fun i => l.length - i) 0 (by simp) ?_ (fun i hi => ?_)
  ·repeat' ((conv => whnf);first|(with_reducible first|rfl|exact zXT|exact zXS)|exact True.intro|intro _|refine WA ?_ ?_|refine WF ?_|refine W1 rfl ?_ ?_|refine W2 rfl ?_ ?_|refine W3 rfl ?_ ?_|refine W4 ?_ ?_|refine W5 rfl ?_ ?_|refine W6 ?_ ?_|refine WN ?_|refine X1 (W1 rfl ?_ ?_)|refine X1 (W2 rfl ?_ ?_)|refine X2 (W7 rfl ?_ ?_)|refine X3 (W7 rfl ?_ ?_)|refine X4 (W7 rfl ?_ ?_)|refine X5 (W7 rfl ?_ ?_))
   all_goals (try (conv => whnf))
   all_goals (try rfl)
  ·obtain ⟨hi,ha⟩ := hi
   repeat' ((conv => whnf);first|(with_reducible first|rfl|exact zXT|exact zXS)|exact True.intro|intro _|refine WA ?_ ?_|refine WF ?_|refine W1 rfl ?_ ?_|refine W2 rfl ?_ ?_|refine W3 rfl ?_ ?_|refine W4 ?_ ?_|refine W5 rfl ?_ ?_|refine W6 ?_ ?_|refine WN ?_|refine X1 (W1 rfl ?_ ?_)|refine X1 (W2 rfl ?_ ?_)|refine X2 (W7 rfl ?_ ?_)|refine X3 (W7 rfl ?_ ?_)|refine X4 (W7 rfl ?_ ?_)|refine X5 (W7 rfl ?_ ?_))
   all_goals (try (conv => whnf))
   all_goals (try first|exact obA|refine Ob.mk ?_)
   all_goals (try simp only [ZA,ZB,ZC,ZD,ZE,ZF,ZG,ZH,ZI,ZJ,ZK,ZL,ZM,ZN,ZO,Int.toNat_natCast,UInt8.ofNat_toNat,cast_eq] at *)
   ·have h : i < l.length := by omega
    rw [zfK,zgA h (d := zZL.dflt)]
    ·simp
    ·simp_all;omega
   ·have h : i < l.length := by omega
    refine Rnd.mk ⟨i + 1,?_,?_,?_⟩
    ·refine ⟨by omega,?_⟩
     rw [zrW _ l i zZL.dflt h,ha]
     simp_all
     omega
    ·omega
    ·all_goals exact vcA
   ·have : i = l.length := by omega
    subst this
    rw [List.take_length] at ha
    rw [zfK,ha,decide_eq_true (by omega)];rfl
def zq0 (n : zXN) : Bool := decide ((n.2.2.1.length : Int) ≤ 40) && decide ((n.2.2.2.2.1.length : Int) ≤ 300) && decide ((n.kids.length : Int) ≤ 60) && zfK n.2.2.2.1
instance f9 (k s : Int) (nm : List UInt8) (at_ : List zbZ) (d : List UInt8) (up : Int) (kids : List Int) :
  Fn BB 22 [.agg [.int .i64 k,.int .i64 s,.str nm,.rd zZL at_,.str d,.int .i64 up,.rd zXR kids]] True (.bool (zq0 (k,s,nm,at_,d,up,kids))) := by
 refine Fn.intro (N := 24) [0,1,2] [] Try.call22 Try.func22 rfl rfl (by kernel_rfl) (fun hpre => ?_)
 all_goals exact vcA
def zc4 (l : List zXN) (most : Int) : Bool := decide (l.length ≤ most) && l.all zq0
instance f8 (l : List zXN) (most : Int) : Fn BB 6 [.agg [.rd zXK l],.int .i64 most] True (.bool (zc4 l most)) := by
 refine Fn.intro (N := 23) [0,1,2,4,6,11,13,14,15,16,21] [] Try.call6 Try.func6 rfl rfl (by kernel_rfl) (fun hpre => ?_)
 repeat' ((conv => whnf);first|(with_reducible first|rfl|exact zXT|exact zXS)|exact True.intro|intro _|refine WA ?_ ?_|refine WF ?_|refine W1 rfl ?_ ?_|refine W2 rfl ?_ ?_|refine W3 rfl ?_ ?_|refine W4 ?_ ?_|refine W5 rfl ?_ ?_|refine W6 ?_ ?_|refine WN ?_|refine X1 (W1 rfl ?_ ?_)|refine X1 (W2 rfl ?_ ?_)|refine X2 (W7 rfl ?_ ?_)|refine X3 (W7 rfl ?_ ?_)|refine X4 (W7 rfl ?_ ?_)|refine X5 (W7 rfl ?_ ?_))
 all_goals (try (conv => whnf))
 ·simp only [zc4,decide_eq_true_eq] at *
  rw [decide_eq_false (by omega)];rfl
 ·refine LoopStop.mk (α := Nat) (fun i => [(15,.int .i64 i)]) (fun _ => []) 20 (fun i => i ≤ l.length ∧ (l.take i).all zq0 = true) (fun i => l.length - i) 0 (by simp) ?_ (fun i hi => ?_)
  ·repeat' ((conv => whnf);first|(with_reducible first|rfl|exact zXT|exact zXS)|exact True.intro|intro _|refine WA ?_ ?_|refine WF ?_|refine W1 rfl ?_ ?_|refine W2 rfl ?_ ?_|refine W3 rfl ?_ ?_|refine W4 ?_ ?_|refine W5 rfl ?_ ?_|refine W6 ?_ ?_|refine WN ?_|refine X1 (W1 rfl ?_ ?_)|refine X1 (W2 rfl ?_ ?_)|refine X2 (W7 rfl ?_ ?_)|refine X3 (W7 rfl ?_ ?_)|refine X4 (W7 rfl ?_ ?_)|refine X5 (W7 rfl ?_ ?_))
   all_goals (try (conv => whnf))
   all_goals (try rfl)
  ·obtain ⟨hi,ha⟩ := hi
   repeat' ((conv => whnf);first|(with_reducible first|rfl|exact zXT|exact zXS)|exact True.intro|intro _|refine WA ?_ ?_|refine WF ?_|refine W1 rfl ?_ ?_|refine W2 rfl ?_ ?_|refine W3 rfl ?_ ?_|refine W4 ?_ ?_|refine W5 rfl ?_ ?_|refine W6 ?_ ?_|refine WN ?_|refine X1 (W1 rfl ?_ ?_)|refine X1 (W2 rfl ?_ ?_)|refine X2 (W7 rfl ?_ ?_)|refine X3 (W7 rfl ?_ ?_)|refine X4 (W7 rfl ?_ ?_)|refine X5 (W7 rfl ?_ ?_))
   all_goals (try (conv => whnf))
   all_goals (try first|exact obA|refine Ob.mk ?_)
   all_goals (try simp only [ZA,ZB,ZC,ZD,ZE,ZF,ZG,ZH,ZI,ZJ,ZK,ZL,ZM,ZN,ZO,Int.toNat_natCast,UInt8.ofNat_toNat,cast_eq] at *)
   ·have h : i < l.length := by omega
    rw [zc4,zgA h (d := zXK.dflt)]
    ·simp
    ·simp_all
   ·have h : i < l.length := by omega
    refine Rnd.mk ⟨i + 1,?_,?_,?_⟩
    ·refine ⟨by omega,?_⟩
     rw [zrW _ l i zXK.dflt h,ha]
     simp_all
    ·omega
    ·all_goals exact vcA
   ·have : i = l.length := by omega
    subst this
    rw [List.take_length] at ha
    rw [zc4,ha,decide_eq_true (by omega)];rfl
end Go.Vc

namespace Go.Vc
open Go.Proofs
set_option maxRecDepth 10000
instance f14 (l : List Int) : FnM BB 45 [.rd zXR l] [] (l.length ≤ 100000) (.own 0) [(0,.own zXR l)] := by
 refine FnM.intro (N := 8) [0,2,4] [] 1 Try.call45 Try.func45 rfl rfl (by kernel_rfl) (fun hpre => ?_)
 repeat' ((conv => whnf);first|(with_reducible first|rfl|exact zXT|exact zXS)|exact True.intro|intro _|refine WA ?_ ?_|refine WF ?_|refine W1 rfl ?_ ?_|refine W2 rfl ?_ ?_|refine W3 rfl ?_ ?_|refine W4 ?_ ?_|refine W5 rfl ?_ ?_|refine W6 ?_ ?_|refine WN ?_|refine X1 (W1 rfl ?_ ?_)|refine X1 (W2 rfl ?_ ?_)|refine X2 (W7 rfl ?_ ?_)|refine X3 (W7 rfl ?_ ?_)|refine X4 (W7 rfl ?_ ?_)|refine X5 (W7 rfl ?_ ?_))
 all_goals (try (conv => whnf))
 all_goals (try first|exact obA|refine Ob.mk ?_)
 all_goals (try simp_all)
instance f36 (l : List zbZ) : FnM BB 40 [.rd zZL l] [] (l.length ≤ 100000) (.own 0) [(0,.own zZL l)] := by
 refine FnM.intro (N := 8) [0,2,4] [] 1 Try.call40 Try.func40 rfl rfl (by kernel_rfl) (fun hpre => ?_)
 repeat' ((conv => whnf);first|(with_reducible first|rfl|exact zXT|exact zXS)|exact True.intro|intro _|refine WA ?_ ?_|refine WF ?_|refine W1 rfl ?_ ?_|refine W2 rfl ?_ ?_|refine W3 rfl ?_ ?_|refine W4 ?_ ?_|refine W5 rfl ?_ ?_|refine W6 ?_ ?_|refine WN ?_|refine X1 (W1 rfl ?_ ?_)|refine X1 (W2 rfl ?_ ?_)|refine X2 (W7 rfl ?_ ?_)|refine X3 (W7 rfl ?_ ?_)|refine X4 (W7 rfl ?_ ?_)|refine X5 (W7 rfl ?_ ?_))
 all_goals (try (conv => whnf))
 all_goals (try first|exact obA|refine Ob.mk ?_)
 all_goals (try simp_all)
def zjA (l : List Int) (w : Int) : Int := if l.contains w then (l.idxOf w : Int) else -1
theorem zmB {l : List Int} {w : Int} (h : l.contains w = false) : zjA l w = -1 := by rw [zjA,h];rfl
theorem zyG (l : List Int) (i : Nat) (w : Int) (h : i < l.length) : (l.take (i+1)).contains w = ((l.take i).contains w || (l.getD i 0 == w)) := by
 rw [take_snoc l i 0 h]
 simp only [List.contains_eq_any_beq,List.any_append,List.any_cons,List.any_nil,Bool.or_false]
 congr 1
 exact Bool.beq_comm
theorem zvG {l : List Int} {w : Int} {i : Nat} (h : i < l.length) (h1 : (l.take i).contains w = false) (h2 : w = l.getD i 0) : zjA l w = i := by
 have hc : l.contains w = true := by rw [h2];simp [List.getD,List.getElem?_eq_getElem h]
 rw [zjA,hc,if_pos rfl]
 have e := List.take_append_drop i l
 rw [← e,List.idxOf_append,if_neg (by simpa using h1),List.length_take,Nat.min_eq_left (by omega)]
 have e2 : l.drop i = w :: l.drop (i+1) := by rw [List.drop_eq_getElem_cons h,h2];simp [List.getD,List.getElem?_eq_getElem h]
 rw [e2,List.idxOf_cons_self];simp
instance f41 (l : List Int) (w : Int) : Fn BB 38 [.rd zXR l,.int .i64 w] True (.int .i64 (zjA l w)) := by
 refine Fn.intro (N := 19) [0,1,4,5,7,8,9,16] [] Try.call38 Try.func38 rfl rfl (by kernel_rfl) (fun hpre => ?_)
 repeat' ((conv => whnf);first|(with_reducible first|rfl|exact zXT|exact zXS)|exact True.intro|intro _|refine WA ?_ ?_|refine WF ?_|refine W1 rfl ?_ ?_|refine W2 rfl ?_ ?_|refine W3 rfl ?_ ?_|refine W4 ?_ ?_|refine W5 rfl ?_ ?_|refine W6 ?_ ?_|refine WN ?_|refine X1 (W1 rfl ?_ ?_)|refine X1 (W2 rfl ?_ ?_)|refine X2 (W7 rfl ?_ ?_)|refine X3 (W7 rfl ?_ ?_)|refine X4 (W7 rfl ?_ ?_)|refine X5 (W7 rfl ?_ ?_))
 all_goals (try (conv => whnf))
 refine LoopStop.mk (α := Nat) (fun i => [(8,.int .i64 i)]) (fun i => []) 20 (fun i => i ≤ l.length ∧ (l.take i).contains w = false) (fun i => l.length - i) 0 (by simp) ?_ (fun i hi => ?_)
 ·repeat' ((conv => whnf);first|(with_reducible first|rfl|exact zXT|exact zXS)|exact True.intro|intro _|refine WA ?_ ?_|refine WF ?_|refine W1 rfl ?_ ?_|refine W2 rfl ?_ ?_|refine W3 rfl ?_ ?_|refine W4 ?_ ?_|refine W5 rfl ?_ ?_|refine W6 ?_ ?_|refine WN ?_|refine X1 (W1 rfl ?_ ?_)|refine X1 (W2 rfl ?_ ?_)|refine X2 (W7 rfl ?_ ?_)|refine X3 (W7 rfl ?_ ?_)|refine X4 (W7 rfl ?_ ?_)|refine X5 (W7 rfl ?_ ?_))
  all_goals (try (conv => whnf))
  all_goals (try rfl)
 ·obtain ⟨hi,ha⟩ := hi
  repeat' ((conv => whnf);first|(with_reducible first|rfl|exact zXT|exact zXS)|exact True.intro|intro _|refine WA ?_ ?_|refine WF ?_|refine W1 rfl ?_ ?_|refine W2 rfl ?_ ?_|refine W3 rfl ?_ ?_|refine W4 ?_ ?_|refine W5 rfl ?_ ?_|refine W6 ?_ ?_|refine WN ?_|refine X1 (W1 rfl ?_ ?_)|refine X1 (W2 rfl ?_ ?_)|refine X2 (W7 rfl ?_ ?_)|refine X3 (W7 rfl ?_ ?_)|refine X4 (W7 rfl ?_ ?_)|refine X5 (W7 rfl ?_ ?_))
  all_goals (try (conv => whnf))
  all_goals (try first|exact obA|refine Ob.mk ?_)
  all_goals (try simp only [ZA,ZB,ZC,ZD,ZE,ZF,ZG,ZH,ZI,ZJ,ZK,ZL,ZM,ZN,ZO,Int.toNat_natCast,UInt8.ofNat_toNat,cast_eq] at *)
  ·rw [zvG (i := i) (by omega) (by simpa using ha) (by assumption)]
  ·have h : i < l.length := by omega
   refine Rnd.mk ⟨i + 1,?_,?_,?_⟩
   ·refine ⟨by omega,?_⟩
    rw [zyG l i w h,Bool.or_eq_false_iff]
    refine ⟨by simpa using ha,beq_eq_false_iff_ne.2 fun e => ?_⟩
    simp_all
   ·omega
   ·all_goals exact vcA
  ·have : i = l.length := by omega
   subst this
   rw [zmB (by simpa using ha)]
end Go.Vc

namespace Go.Vc
open Go.Proofs
set_option maxRecDepth 10000
abbrev nd (l : List zXN) (i : Int) : zXN := l.getD i.toNat zXK.dflt
def zZD (l : List zXN) (kid : Int) : Int := if isT l kid && isT l (nd l kid).up then zjA (nd l (nd l kid).up).kids kid else -1
theorem zYW {l : List zXN} {i : Int} : isT l i = true ↔ 0 ≤ i ∧ i < l.length := by simp [isT]
theorem zpF {a b : Bool} (h : (!a || !b) = true) : (a && b) = false := by cases a <;> cases b <;> simp_all
theorem zcW {a b : Bool} (h : (!a || !b) = false) : a = true ∧ b = true := by cases a <;> cases b <;> simp_all
instance f34 (l : List zXN) (kid : Int) : Fn BB 53 [.agg [.rd zXK l],.int .i64 kid] True (.int .i64 (zZD l kid)) := by
 refine Fn.intro (N := 33) [0,1,2,4,19] [(1,[1,0,1,1,1,1,1,1,1,1,1,1,3,3,3]),(3,[0,1,0,1,0,1,1,1,3,3,3,0,3,3])] Try.call53 Try.func53 rfl rfl (by kernel_rfl) (fun hpre => ?_)
 repeat' ((conv => whnf);first|(with_reducible first|rfl|exact zXT|exact zXS)|exact True.intro|intro _|refine WA ?_ ?_|refine WF ?_|refine W1 rfl ?_ ?_|refine W2 rfl ?_ ?_|refine W3 rfl ?_ ?_|refine W4 ?_ ?_|refine W5 rfl ?_ ?_|refine W6 ?_ ?_|refine WN ?_|refine X1 (W1 rfl ?_ ?_)|refine X1 (W2 rfl ?_ ?_)|refine X2 (W7 rfl ?_ ?_)|refine X3 (W7 rfl ?_ ?_)|refine X4 (W7 rfl ?_ ?_)|refine X5 (W7 rfl ?_ ?_))
 all_goals (try (conv => whnf))
 all_goals (try first|exact obA|refine Ob.mk ?_)
 ·exact zYW.1 (by simp_all)
 ·rename_i h
  rw [zZD]
  have h := zpF h
  rw [show (isT l kid && isT l (nd l kid).up) = false from h];rfl
 ·exact zYW.1 (zcW ‹_›).1
 ·exact zYW.1 (zcW ‹_›).2
 ·rename_i h
  obtain ⟨h1,h2⟩ := zcW h
  rw [zZD,show isT l (nd l kid).up = true from h2,h1];rfl
def zgI : Nat → List zXN → Int → Int → Bool
 | 0,_,_,_ => false
 | n + 1,l,up,kid => if isT l kid then (if kid = up then true else zgI n l up (nd l kid).up) else false
def zi9 (l : List zXN) (up kid : Int) : Bool := isT l up && zgI (l.length + 1) l up kid
instance f35 (l : List zXN) (up kid : Int) : Fn BB 42 [.agg [.rd zXK l],.int .i64 up,.int .i64 kid] (l.length ≤ 100000) (.bool (zi9 l up kid)) := by
 refine Fn.intro (N := 31) [0,1,2,3,6,10,14,15,16,20,23] [] Try.call42 Try.func42 rfl rfl (by kernel_rfl) (fun hpre => ?_)
 repeat' ((conv => whnf);first|(with_reducible first|rfl|exact zXT|exact zXS)|exact True.intro|intro _|refine WA ?_ ?_|refine WF ?_|refine W1 rfl ?_ ?_|refine W2 rfl ?_ ?_|refine W3 rfl ?_ ?_|refine W4 ?_ ?_|refine W5 rfl ?_ ?_|refine W6 ?_ ?_|refine WN ?_|refine X1 (W1 rfl ?_ ?_)|refine X1 (W2 rfl ?_ ?_)|refine X2 (W7 rfl ?_ ?_)|refine X3 (W7 rfl ?_ ?_)|refine X4 (W7 rfl ?_ ?_)|refine X5 (W7 rfl ?_ ?_))
 all_goals (try (conv => whnf))
 all_goals (try first|exact obA|refine Ob.mk ?_)
 ·simp_all [zi9]
 ·refine LoopStop.mk (α := Nat × Int) (fun x => [(15,.int .i64 x.1),(2,.int .i64 x.2)]) (fun _ => []) 20 (fun x => x.1 ≤ l.length + 1 ∧ zgI (l.length + 1 - x.1) l up x.2 = zgI (l.length + 1) l up kid) (fun x => l.length + 1 - x.1) (0,kid) (by simp) ?_ (fun x hx => ?_)
  ·repeat' ((conv => whnf);first|(with_reducible first|rfl|exact zXT|exact zXS)|exact True.intro|intro _|refine WA ?_ ?_|refine WF ?_|refine W1 rfl ?_ ?_|refine W2 rfl ?_ ?_|refine W3 rfl ?_ ?_|refine W4 ?_ ?_|refine W5 rfl ?_ ?_|refine W6 ?_ ?_|refine WN ?_|refine X1 (W1 rfl ?_ ?_)|refine X1 (W2 rfl ?_ ?_)|refine X2 (W7 rfl ?_ ?_)|refine X3 (W7 rfl ?_ ?_)|refine X4 (W7 rfl ?_ ?_)|refine X5 (W7 rfl ?_ ?_))
   all_goals (try (conv => whnf))
   all_goals (try rfl)
  ·obtain ⟨i,k⟩ := x
   obtain ⟨hi,ha⟩ := hx
   have hstep : i < l.length + 1 → zgI (l.length + 1 - i) l up k = if isT l k then (if k = up then true else zgI (l.length + 1 - (i + 1)) l up (nd l k).up) else false := by
    intro h
    rw [show l.length + 1 - i = (l.length + 1 - (i + 1)) + 1 by omega];rfl
   dsimp only at hi ha
   have hg : zi9 l up kid = (isT l up && zgI (l.length + 1 - i) l up k) := by rw [zi9,ha]
   repeat' ((conv => whnf);first|(with_reducible first|rfl|exact zXT|exact zXS)|exact True.intro|intro _|refine WA ?_ ?_|refine WF ?_|refine W1 rfl ?_ ?_|refine W2 rfl ?_ ?_|refine W3 rfl ?_ ?_|refine W4 ?_ ?_|refine W5 rfl ?_ ?_|refine W6 ?_ ?_|refine WN ?_|refine X1 (W1 rfl ?_ ?_)|refine X1 (W2 rfl ?_ ?_)|refine X2 (W7 rfl ?_ ?_)|refine X3 (W7 rfl ?_ ?_)|refine X4 (W7 rfl ?_ ?_)|refine X5 (W7 rfl ?_ ?_))
   all_goals (try (conv => whnf))
   all_goals (try first|exact obA|refine Ob.mk ?_)
   all_goals (simp only [decide_eq_true_eq,decide_eq_false_iff_not,beq_iff_eq,beq_eq_false_iff_ne,Bool.not_eq_true',Bool.not_eq_false'] at *)
   ·rw [hg,hstep (by omega)];simp_all
   ·rw [hg,hstep (by omega)];simp_all
   ·exact zYW.1 ‹_›
   ·refine Rnd.mk ⟨(i + 1,(nd l k).up),?_,?_,?_⟩
    ·refine ⟨by omega,?_⟩
     rw [← ha,hstep (by omega)]
     simp_all
    ·simp only [];omega
    ·all_goals exact vcA
   ·have : i = l.length + 1 := by omega
    subst this
    rw [hg]
    simp [zgI]
end Go.Vc

namespace Go.Vc
open Go.Proofs
set_option maxRecDepth 10000
noncomputable def eqB {α : Type} (a b : α) : Bool := @decide (a = b) (Classical.propDecidable _)
theorem zq8 {α : Type} {a b : α} (h : a = b) : true = eqB a b := by unfold eqB;simp [h]
theorem zeZ {α : Type} {a b : α} (h : a ≠ b) : false = eqB a b := by unfold eqB;simp [h]
theorem zw1 {α : Type} {a b : α} : eqB a b = true ↔ a = b := by unfold eqB;simp
theorem jCM {α : Type} {a b : α} : eqB a b = false ↔ a ≠ b := by unfold eqB;simp
end Go.Vc

namespace Go.Vc
open Go.Proofs
set_option maxRecDepth 10000
def zYL (l : List zXN) : Bool := decide (l.length ≤ 1000) && l.all fun n => decide (n.2.2.2.1.length ≤ 1000) && decide (n.kids.length ≤ 1000)
end Go.Vc

/-
 DERIVED: THE SHELF's CONTRACTS AT THIS DUMP,IN PLAIN WORDS (tools/lay-plain.mjs out of 'TryShelf.lean',which tools/lay-shelf.mjs wrote): THE SAME DECLARATIONS UNDER THE SAME NAMES: 'import', 'namespace', 'open', 'def', 'theorem' AND NOTHING ELSE: no command of the shelf's: FOR A HAND-IN. Each laying: the table of numbers ('.._ren') and one theorem,a field a fact of the dump's own or the kernel's comparison;each contract: ONE APPLICATION.
-/
namespace Go.Proofs
open Go.Shelf
def Try.laysNm223_ren : Go.Shelf.Ren := ⟨fun | 23 => 54 | n => n,fun | 22 => 30 | 3 => 3 | 4 => 4 | 0 => 0 | n => n,fun | n => n⟩
theorem Try.laysNm223 : Go.Proofs.Lays2.n23 Try.prog Try.laysNm223_ren := {
  mixed := by kernel_rfl
  f23 := Try.func54.trans (congrArg some (by kernel_rfl))
  t0 := Try.underlying0
  a0 := Try.isAgg0
  z0 := Try.sizeOf0
  v0 := Try.zeroValue0
  t3 := Try.underlying3
  a3 := Try.isAgg3
  z3 := Try.sizeOf3
  v3 := Try.zeroValue3
  t4 := Try.underlying4
  a4 := Try.isAgg4
  z4 := Try.sizeOf4
  v4 := Try.zeroValue4
  t22 := Try.underlying30
  a22 := Try.isAgg30
  z22 := Try.sizeOf30
  v22 := Try.zeroValue30
  i3 := by kernel_rfl }
open Go.RowKit Go.Lib Go.Sort in
theorem Try.slices_Delete_int_cells (b off n c i j : Nat) (zs : List Int) (w : World) (hz : n ≤ zs.length) (hcap : n ≤ c) (hm : c ≤ 9223372036854775807) (hij : i ≤ j) (hj : j ≤ n) (hc : ∀ j,j < zs.length → w.cell? ⟨b,off + j,none⟩ = some (.int .i64 (zs.getD j 0))) (hf : ∀ j,j < n → w.frozen? ⟨b,off + j,none⟩ = false) :
  Calls Try.prog 54 #[.slice (some ⟨b,off,none⟩) n c,.int .i64 i,.int .i64 j] w fun e w' => e = .returned (.slice (some ⟨b,off,none⟩) (n - (j - i)) c) ∧ ∃ q,w' = (w.drewN q).setCells b off (((zs.take n).take i ++ (zs.take n).drop j ++ List.replicate (j - i) 0).map (Value.int .i64)) := Any.slices_Delete_int_cells Try.laysNm223 b off n c i j zs w hz hcap hm hij hj hc hf
open Go.RowKit Go.Lib in
theorem Try.slices_Delete_int_empty (a : Option Addr) (c : Nat) (w : World) :
  Calls Try.prog 54 #[.slice a 0 c,.int .i64 0,.int .i64 0] w fun e w' => e = .returned (.slice a 0 c) ∧ w' = w := Any.slices_Delete_int_empty Try.laysNm223 a c w
def Try.laysNm221_ren : Go.Shelf.Ren := ⟨fun | 21 => 44 | 27 => 55 | 28 => 56 | 35 => 58 | 39 => 59 | n => n,fun | 22 => 30 | 3 => 3 | 4 => 4 | 0 => 0 | n => n,fun | n => n⟩
theorem Try.laysNm221 : Go.Proofs.Lays2.n21 Try.prog Try.laysNm221_ren := {
  mixed := by kernel_rfl
  f21 := Try.func44.trans (congrArg some (by kernel_rfl))
  f27 := Try.func55.trans (congrArg some (by kernel_rfl))
  f28 := Try.func56.trans (congrArg some (by kernel_rfl))
  f35 := Try.func58.trans (congrArg some (by kernel_rfl))
  f39 := Try.func59.trans (congrArg some (by kernel_rfl))
  t0 := Try.underlying0
  a0 := Try.isAgg0
  z0 := Try.sizeOf0
  v0 := Try.zeroValue0
  t3 := Try.underlying3
  a3 := Try.isAgg3
  z3 := Try.sizeOf3
  v3 := Try.zeroValue3
  t4 := Try.underlying4
  a4 := Try.isAgg4
  z4 := Try.sizeOf4
  v4 := Try.zeroValue4
  t22 := Try.underlying30
  a22 := Try.isAgg30
  z22 := Try.sizeOf30
  v22 := Try.zeroValue30
  i3 := by kernel_rfl }
end Go.Proofs
