/- A part of the proof: lemmas and walks that the last text of the claim joins; no condition. -/
import Derived.Test.YtkgklfnnopiajaaOrderTellsVD
import Derived.Laws.Externs
import Derived.Test.YtkgklfnnopiajaaChecked
import Derived.Shelf.Spec.SlicesInsert
import Derived.Shelf.Spec.SlicesInsertGrow
import Derived.Shelf.Slices.Turned
import Derived.Shelf.Slices.Reverse
import Derived.Shelf.Slices.Equal
import Derived.Ground.Names2Prog
import Derived.Shelf.Slices.Clone
import Derived.Shelf.Slices.Delete
import Derived.Shelf.Slices.Cells
import Derived.Shelf.Slices.Empties
import Derived.Shelf.Slices.Empties2
import Derived.Ground.SlgnProg
import Derived.Shelf.SlicesE.Clone
import Derived.Test.YtkgklfnnopiajaaProg
set_option linter.unusedVariables false
set_option linter.unusedSimpArgs false
namespace Go.Vc
open Go.Proofs
set_option linter.unusedVariables false
theorem mixed : Try.prog.follows .mixedOrders = true := by kernel_rfl
abbrev intTy : Ty := .int .i64
abbrev spTy : Ty := .pr intTy intTy
abbrev attrTy : Ty := .pr .str .str
abbrev nodeTy : Ty := .pr intTy (.pr intTy (.pr .str (.pr (.sl attrTy) (.pr .str (.pr intTy (.sl intTy))))))
def tyB (t : TypeId) : Option Ty :=
  bif Nat.beq t 3 then some intTy else bif Nat.beq t 4 then some .bool else bif Nat.beq t 5 then some .byte else bif Nat.beq t 9 then some .str else bif Nat.beq t 68 then some attrTy else bif Nat.beq t 45 then some nodeTy else bif Nat.beq t 62 then some spTy else bif Nat.beq t 35 then some .cpx else bif Nat.beq t 36 then some .flt else none
def eqsB (t : TypeId) : Bool := Nat.beq t 68
theorem eqsB_ok : ∀ t, eqsB t = true → Try.prog.stoodInHeld t = false ∧ Try.prog.eqGuardType Try.prog.depth t = false ∧ ((Try.prog.fieldsOf t).toList.all fun f => f.name != "_") = true := by
  intro t h
  obtain rfl := beq_of h
  exact ⟨by kernel_rfl, by kernel_rfl, by kernel_rfl⟩
noncomputable abbrev BB : Base := { P := Try.prog, mixed := mixed, G := fun _ => True, mono := fun _ _ _ h => h, ty0 := tyB, eqs := eqsB, eqs_ok := eqsB_ok }

set_option maxRecDepth 10000
@[simp] theorem bytes1 : bytesT Try.prog 1 = 8 := rfl
@[simp] theorem bytesB1 : bytesT BB.P 1 = 8 := rfl
@[simp] theorem bytes2 : bytesT Try.prog 2 = 8 := rfl
@[simp] theorem bytesB2 : bytesT BB.P 2 = 8 := rfl
@[simp] theorem bytes3 : bytesT Try.prog 3 = 8 := rfl
@[simp] theorem bytesB3 : bytesT BB.P 3 = 8 := rfl
@[simp] theorem bytes4 : bytesT Try.prog 4 = 1 := rfl
@[simp] theorem bytesB4 : bytesT BB.P 4 = 1 := rfl
@[simp] theorem bytes5 : bytesT Try.prog 5 = 1 := rfl
@[simp] theorem bytesB5 : bytesT BB.P 5 = 1 := rfl
@[simp] theorem bytes6 : bytesT Try.prog 6 = 1 := rfl
@[simp] theorem bytesB6 : bytesT BB.P 6 = 1 := rfl
@[simp] theorem bytes7 : bytesT Try.prog 7 = 24 := rfl
@[simp] theorem bytesB7 : bytesT BB.P 7 = 24 := rfl
@[simp] theorem bytes8 : bytesT Try.prog 8 = 24 := rfl
@[simp] theorem bytesB8 : bytesT BB.P 8 = 24 := rfl
@[simp] theorem bytes9 : bytesT Try.prog 9 = 16 := rfl
@[simp] theorem bytesB9 : bytesT BB.P 9 = 16 := rfl
@[simp] theorem bytes10 : bytesT Try.prog 10 = 16 := rfl
@[simp] theorem bytesB10 : bytesT BB.P 10 = 16 := rfl
@[simp] theorem bytes11 : bytesT Try.prog 11 = 16 := rfl
@[simp] theorem bytesB11 : bytesT BB.P 11 = 16 := rfl
@[simp] theorem bytes12 : bytesT Try.prog 12 = 8 := rfl
@[simp] theorem bytesB12 : bytesT BB.P 12 = 8 := rfl
@[simp] theorem bytes13 : bytesT Try.prog 13 = 24 := rfl
@[simp] theorem bytesB13 : bytesT BB.P 13 = 24 := rfl
@[simp] theorem bytes14 : bytesT Try.prog 14 = 24 := rfl
@[simp] theorem bytesB14 : bytesT BB.P 14 = 24 := rfl
@[simp] theorem bytes15 : bytesT Try.prog 15 = 8 := rfl
@[simp] theorem bytesB15 : bytesT BB.P 15 = 8 := rfl
@[simp] theorem bytes16 : bytesT Try.prog 16 = 8 := rfl
@[simp] theorem bytesB16 : bytesT BB.P 16 = 8 := rfl
@[simp] theorem bytes17 : bytesT Try.prog 17 = 8 := rfl
@[simp] theorem bytesB17 : bytesT BB.P 17 = 8 := rfl
@[simp] theorem bytes18 : bytesT Try.prog 18 = 8 := rfl
@[simp] theorem bytesB18 : bytesT BB.P 18 = 8 := rfl
@[simp] theorem bytes19 : bytesT Try.prog 19 = 8 := rfl
@[simp] theorem bytesB19 : bytesT BB.P 19 = 8 := rfl
@[simp] theorem bytes20 : bytesT Try.prog 20 = 16 := rfl
@[simp] theorem bytesB20 : bytesT BB.P 20 = 16 := rfl
@[simp] theorem bytes21 : bytesT Try.prog 21 = 4 := rfl
@[simp] theorem bytesB21 : bytesT BB.P 21 = 4 := rfl
@[simp] theorem bytes22 : bytesT Try.prog 22 = 24 := rfl
@[simp] theorem bytesB22 : bytesT BB.P 22 = 24 := rfl
@[simp] theorem bytes23 : bytesT Try.prog 23 = 24 := rfl
@[simp] theorem bytesB23 : bytesT BB.P 23 = 24 := rfl
@[simp] theorem bytes24 : bytesT Try.prog 24 = 24 := rfl
@[simp] theorem bytesB24 : bytesT BB.P 24 = 24 := rfl
@[simp] theorem bytes25 : bytesT Try.prog 25 = 8 := rfl
@[simp] theorem bytesB25 : bytesT BB.P 25 = 8 := rfl
@[simp] theorem bytes26 : bytesT Try.prog 26 = 8 := rfl
@[simp] theorem bytesB26 : bytesT BB.P 26 = 8 := rfl
@[simp] theorem bytes27 : bytesT Try.prog 27 = 24 := rfl
@[simp] theorem bytesB27 : bytesT BB.P 27 = 24 := rfl
@[simp] theorem bytes28 : bytesT Try.prog 28 = 8 := rfl
@[simp] theorem bytesB28 : bytesT BB.P 28 = 8 := rfl
@[simp] theorem bytes29 : bytesT Try.prog 29 = 24 := rfl
@[simp] theorem bytesB29 : bytesT BB.P 29 = 24 := rfl
@[simp] theorem bytes31 : bytesT Try.prog 31 = 8 := rfl
@[simp] theorem bytesB31 : bytesT BB.P 31 = 8 := rfl
@[simp] theorem bytes32 : bytesT Try.prog 32 = 8 := rfl
@[simp] theorem bytesB32 : bytesT BB.P 32 = 8 := rfl
@[simp] theorem bytes33 : bytesT Try.prog 33 = 8 := rfl
@[simp] theorem bytesB33 : bytesT BB.P 33 = 8 := rfl
@[simp] theorem bytes34 : bytesT Try.prog 34 = 8 := rfl
@[simp] theorem bytesB34 : bytesT BB.P 34 = 8 := rfl
@[simp] theorem bytes35 : bytesT Try.prog 35 = 16 := rfl
@[simp] theorem bytesB35 : bytesT BB.P 35 = 16 := rfl
@[simp] theorem bytes36 : bytesT Try.prog 36 = 8 := rfl
@[simp] theorem bytesB36 : bytesT BB.P 36 = 8 := rfl
@[simp] theorem bytes37 : bytesT Try.prog 37 = 8 := rfl
@[simp] theorem bytesB37 : bytesT BB.P 37 = 8 := rfl
@[simp] theorem bytes38 : bytesT Try.prog 38 = 8 := rfl
@[simp] theorem bytesB38 : bytesT BB.P 38 = 8 := rfl
@[simp] theorem bytes39 : bytesT Try.prog 39 = 8 := rfl
@[simp] theorem bytesB39 : bytesT BB.P 39 = 8 := rfl
@[simp] theorem bytes40 : bytesT Try.prog 40 = 8 := rfl
@[simp] theorem bytesB40 : bytesT BB.P 40 = 8 := rfl
@[simp] theorem bytes41 : bytesT Try.prog 41 = 24 := rfl
@[simp] theorem bytesB41 : bytesT BB.P 41 = 24 := rfl
@[simp] theorem bytes42 : bytesT Try.prog 42 = 24 := rfl
@[simp] theorem bytesB42 : bytesT BB.P 42 = 24 := rfl
@[simp] theorem bytes43 : bytesT Try.prog 43 = 24 := rfl
@[simp] theorem bytesB43 : bytesT BB.P 43 = 24 := rfl
@[simp] theorem bytes44 : bytesT Try.prog 44 = 104 := rfl
@[simp] theorem bytesB44 : bytesT BB.P 44 = 104 := rfl
@[simp] theorem bytes45 : bytesT Try.prog 45 = 104 := rfl
@[simp] theorem bytesB45 : bytesT BB.P 45 = 104 := rfl
@[simp] theorem bytes46 : bytesT Try.prog 46 = 8 := rfl
@[simp] theorem bytesB46 : bytesT BB.P 46 = 8 := rfl
@[simp] theorem bytes47 : bytesT Try.prog 47 = 8 := rfl
@[simp] theorem bytesB47 : bytesT BB.P 47 = 8 := rfl
@[simp] theorem bytes48 : bytesT Try.prog 48 = 8 := rfl
@[simp] theorem bytesB48 : bytesT BB.P 48 = 8 := rfl
@[simp] theorem bytes49 : bytesT Try.prog 49 = 8 := rfl
@[simp] theorem bytesB49 : bytesT BB.P 49 = 8 := rfl
@[simp] theorem bytes50 : bytesT Try.prog 50 = 8 := rfl
@[simp] theorem bytesB50 : bytesT BB.P 50 = 8 := rfl
@[simp] theorem bytes51 : bytesT Try.prog 51 = 8 := rfl
@[simp] theorem bytesB51 : bytesT BB.P 51 = 8 := rfl
@[simp] theorem bytes52 : bytesT Try.prog 52 = 32 := rfl
@[simp] theorem bytesB52 : bytesT BB.P 52 = 32 := rfl
@[simp] theorem bytes53 : bytesT Try.prog 53 = 32 := rfl
@[simp] theorem bytesB53 : bytesT BB.P 53 = 32 := rfl
@[simp] theorem bytes55 : bytesT Try.prog 55 = 8 := rfl
@[simp] theorem bytesB55 : bytesT BB.P 55 = 8 := rfl
@[simp] theorem bytes56 : bytesT Try.prog 56 = 8 := rfl
@[simp] theorem bytesB56 : bytesT BB.P 56 = 8 := rfl
@[simp] theorem bytes57 : bytesT Try.prog 57 = 8 := rfl
@[simp] theorem bytesB57 : bytesT BB.P 57 = 8 := rfl
@[simp] theorem bytes58 : bytesT Try.prog 58 = 8 := rfl
@[simp] theorem bytesB58 : bytesT BB.P 58 = 8 := rfl
@[simp] theorem bytes59 : bytesT Try.prog 59 = 8 := rfl
@[simp] theorem bytesB59 : bytesT BB.P 59 = 8 := rfl
@[simp] theorem bytes60 : bytesT Try.prog 60 = 8 := rfl
@[simp] theorem bytesB60 : bytesT BB.P 60 = 8 := rfl
@[simp] theorem bytes61 : bytesT Try.prog 61 = 16 := rfl
@[simp] theorem bytesB61 : bytesT BB.P 61 = 16 := rfl
@[simp] theorem bytes62 : bytesT Try.prog 62 = 16 := rfl
@[simp] theorem bytesB62 : bytesT BB.P 62 = 16 := rfl
@[simp] theorem bytes63 : bytesT Try.prog 63 = 24 := rfl
@[simp] theorem bytesB63 : bytesT BB.P 63 = 24 := rfl
@[simp] theorem bytes64 : bytesT Try.prog 64 = 8 := rfl
@[simp] theorem bytesB64 : bytesT BB.P 64 = 8 := rfl
@[simp] theorem bytes66 : bytesT Try.prog 66 = 8 := rfl
@[simp] theorem bytesB66 : bytesT BB.P 66 = 8 := rfl
@[simp] theorem bytes67 : bytesT Try.prog 67 = 32 := rfl
@[simp] theorem bytesB67 : bytesT BB.P 67 = 32 := rfl
@[simp] theorem bytes68 : bytesT Try.prog 68 = 32 := rfl
@[simp] theorem bytesB68 : bytesT BB.P 68 = 32 := rfl
@[simp] theorem bytes69 : bytesT Try.prog 69 = 8 := rfl
@[simp] theorem bytesB69 : bytesT BB.P 69 = 8 := rfl
@[simp] theorem bytes70 : bytesT Try.prog 70 = 8 := rfl
@[simp] theorem bytesB70 : bytesT BB.P 70 = 8 := rfl
@[simp] theorem bytes71 : bytesT Try.prog 71 = 8 := rfl
@[simp] theorem bytesB71 : bytesT BB.P 71 = 8 := rfl
@[simp] theorem bytes72 : bytesT Try.prog 72 = 8 := rfl
@[simp] theorem bytesB72 : bytesT BB.P 72 = 8 := rfl
@[simp] theorem bytes73 : bytesT Try.prog 73 = 8 := rfl
@[simp] theorem bytesB73 : bytesT BB.P 73 = 8 := rfl
@[simp] theorem bytes74 : bytesT Try.prog 74 = 8 := rfl
@[simp] theorem bytesB74 : bytesT BB.P 74 = 8 := rfl
@[simp] theorem bytes75 : bytesT Try.prog 75 = 8 := rfl
@[simp] theorem bytesB75 : bytesT BB.P 75 = 8 := rfl
@[simp] theorem bytes76 : bytesT Try.prog 76 = 8 := rfl
@[simp] theorem bytesB76 : bytesT BB.P 76 = 8 := rfl
@[simp] theorem bytes77 : bytesT Try.prog 77 = 8 := rfl
@[simp] theorem bytesB77 : bytesT BB.P 77 = 8 := rfl
@[simp] theorem bytes78 : bytesT Try.prog 78 = 8 := rfl
@[simp] theorem bytesB78 : bytesT BB.P 78 = 8 := rfl
@[simp] theorem bytes79 : bytesT Try.prog 79 = 8 := rfl
@[simp] theorem bytesB79 : bytesT BB.P 79 = 8 := rfl
@[simp] theorem bytes80 : bytesT Try.prog 80 = 8 := rfl
@[simp] theorem bytesB80 : bytesT BB.P 80 = 8 := rfl
@[simp] theorem bytes81 : bytesT Try.prog 81 = 40 := rfl
@[simp] theorem bytesB81 : bytesT BB.P 81 = 40 := rfl
@[simp] theorem bytes82 : bytesT Try.prog 82 = 40 := rfl
@[simp] theorem bytesB82 : bytesT BB.P 82 = 40 := rfl
@[simp] theorem bytes86 : bytesT Try.prog 86 = 8 := rfl
@[simp] theorem bytesB86 : bytesT BB.P 86 = 8 := rfl
@[simp] theorem bytes87 : bytesT Try.prog 87 = 4 := rfl
@[simp] theorem bytesB87 : bytesT BB.P 87 = 4 := rfl
@[simp] theorem bytes88 : bytesT Try.prog 88 = 1 := rfl
@[simp] theorem bytesB88 : bytesT BB.P 88 = 1 := rfl
@[simp] theorem bytes89 : bytesT Try.prog 89 = 1 := rfl
@[simp] theorem bytesB89 : bytesT BB.P 89 = 1 := rfl
theorem u8_bnd (x : UInt8) : 0 ≤ (x.toNat : Int) ∧ (x.toNat : Int) ≤ 255 := by have := x.toNat_lt; omega
end Go.Vc

namespace Go.Vc
open Go.Proofs
set_option linter.unusedVariables false
set_option maxRecDepth 10000
set_option linter.unusedSimpArgs false
abbrev NodeD := nodeTy.T
abbrev NodeD.up (n : NodeD) : Int := n.2.2.2.2.2.1
abbrev NodeD.kids (n : NodeD) : List Int := n.2.2.2.2.2.2
def isT (l : List NodeD) (i : Int) : Bool := decide (0 ≤ i) && decide (i < l.length)
instance f37 (l : List NodeD) (i : Int) : Fn BB 30 [.agg [.rd nodeTy l], .int .i64 i] True (.bool (isT l i)) := by
  refine Fn.intro (N := 14) [0, 1, 2, 4] [] Try.call30 Try.func30 rfl rfl (by kernel_rfl) (fun hpre => ?_)
  repeat' ((conv => whnf); first | (with_reducible rfl) | exact True.intro | (with_reducible exact absTF) | (with_reducible exact absFT) | intro _ | refine And.intro ?_ ?_ | refine Fin.mk ?_ | refine CallG.plain rfl ?_ ?_ | refine CallG.mk rfl ?_ ?_ | refine CallG.nwl rfl ?_ ?_ | refine CallG.nw ?_ ?_ | refine CallF.nwl rfl ?_ ?_ | refine CallF.nw ?_ ?_ | refine AppN.mk ?_ | (refine CallS.q ?_; (conv => whnf); first | refine CallG.plain rfl ?_ ?_ | refine CallG.mk rfl ?_ ?_) | (refine CallS.m ?_; (conv => whnf); refine CallM.mk rfl ?_ ?_) | (refine CallS.h ?_; (conv => whnf); refine CallM.mk rfl ?_ ?_) | (refine CallS.b ?_; (conv => whnf); refine CallM.mk rfl ?_ ?_) | (refine CallS.z ?_; (conv => whnf); refine CallM.mk rfl ?_ ?_))
  all_goals (try (conv => whnf))
  all_goals (simp_all [isT]; done)
end Go.Vc

namespace Go.Vc
open Go.Proofs
set_option linter.unusedVariables false
set_option maxRecDepth 10000
set_option linter.unusedSimpArgs false
theorem take_snoc {α : Type} (l : List α) (i : Nat) (d : α) (h : i < l.length) : l.take (i + 1) = l.take i ++ [l.getD i d] := by
  rw [List.take_succ_eq_append_getElem h]; simp [List.getD, List.getElem?_eq_getElem h]
theorem take_all {α : Type} (p : α → Bool) (l : List α) (i : Nat) (d : α) (h : i < l.length) : (l.take (i + 1)).all p = ((l.take i).all p && p (l.getD i d)) := by
  rw [take_snoc l i d h]; simp
theorem all_false_at {α : Type} {p : α → Bool} {l : List α} {i : Nat} {d : α} (h : i < l.length) (hp : p (l.getD i d) = false) : l.all p = false := by
  rw [List.all_eq_false]
  refine ⟨l.getD i d, ?_, by rw [hp]; simp⟩
  simp [List.getD, List.getElem?_eq_getElem h]
abbrev AttrD := attrTy.T
def attrsOk (l : List AttrD) : Bool := decide (l.length ≤ 14) && l.all fun a => decide (a.1.length ≤ 40) && decide (a.2.length ≤ 150)
instance f33 (l : List AttrD) : Fn BB 24 [.rd attrTy l] True (.bool (attrsOk l)) := by
  refine Fn.intro (N := 25) [0, 2, 4, 7, 8, 9, 10, 11, 23] [] Try.call24 Try.func24 rfl rfl (by kernel_rfl) (fun hpre => ?_)
  repeat' ((conv => whnf); first | (with_reducible rfl) | exact True.intro | (with_reducible exact absTF) | (with_reducible exact absFT) | intro _ | refine And.intro ?_ ?_ | refine Fin.mk ?_ | refine CallG.plain rfl ?_ ?_ | refine CallG.mk rfl ?_ ?_ | refine CallG.nwl rfl ?_ ?_ | refine CallG.nw ?_ ?_ | refine CallF.nwl rfl ?_ ?_ | refine CallF.nw ?_ ?_ | refine AppN.mk ?_ | (refine CallS.q ?_; (conv => whnf); first | refine CallG.plain rfl ?_ ?_ | refine CallG.mk rfl ?_ ?_) | (refine CallS.m ?_; (conv => whnf); refine CallM.mk rfl ?_ ?_) | (refine CallS.h ?_; (conv => whnf); refine CallM.mk rfl ?_ ?_) | (refine CallS.b ?_; (conv => whnf); refine CallM.mk rfl ?_ ?_) | (refine CallS.z ?_; (conv => whnf); refine CallM.mk rfl ?_ ?_))
  all_goals (try (conv => whnf))
  · simp only [attrsOk, decide_eq_true_eq] at *
    rw [decide_eq_false (by omega)]; rfl
  · refine LoopStop.mk (α := Nat) (fun i => [(10, .int .i64 i)]) (fun _ => []) 0 (fun i => i ≤ l.length ∧ (l.take i).all (fun a => decide (a.1.length ≤ 40) && decide (a.2.length ≤ 150)) = true) (fun i => l.length - i) 0 (by simp) ?_ (fun i hi => ?_)
    · repeat' ((conv => whnf); first | (with_reducible rfl) | exact True.intro | (with_reducible exact absTF) | (with_reducible exact absFT) | intro _ | refine And.intro ?_ ?_ | refine Fin.mk ?_ | refine CallG.plain rfl ?_ ?_ | refine CallG.mk rfl ?_ ?_ | refine CallG.nwl rfl ?_ ?_ | refine CallG.nw ?_ ?_ | refine CallF.nwl rfl ?_ ?_ | refine CallF.nw ?_ ?_ | refine AppN.mk ?_ | (refine CallS.q ?_; (conv => whnf); first | refine CallG.plain rfl ?_ ?_ | refine CallG.mk rfl ?_ ?_) | (refine CallS.m ?_; (conv => whnf); refine CallM.mk rfl ?_ ?_) | (refine CallS.h ?_; (conv => whnf); refine CallM.mk rfl ?_ ?_) | (refine CallS.b ?_; (conv => whnf); refine CallM.mk rfl ?_ ?_) | (refine CallS.z ?_; (conv => whnf); refine CallM.mk rfl ?_ ?_))
      all_goals (try (conv => whnf))
      all_goals (try rfl)
    · obtain ⟨hi, ha⟩ := hi
      repeat' ((conv => whnf); first | (with_reducible rfl) | exact True.intro | (with_reducible exact absTF) | (with_reducible exact absFT) | intro _ | refine And.intro ?_ ?_ | refine Fin.mk ?_ | refine CallG.plain rfl ?_ ?_ | refine CallG.mk rfl ?_ ?_ | refine CallG.nwl rfl ?_ ?_ | refine CallG.nw ?_ ?_ | refine CallF.nwl rfl ?_ ?_ | refine CallF.nw ?_ ?_ | refine AppN.mk ?_ | (refine CallS.q ?_; (conv => whnf); first | refine CallG.plain rfl ?_ ?_ | refine CallG.mk rfl ?_ ?_) | (refine CallS.m ?_; (conv => whnf); refine CallM.mk rfl ?_ ?_) | (refine CallS.h ?_; (conv => whnf); refine CallM.mk rfl ?_ ?_) | (refine CallS.b ?_; (conv => whnf); refine CallM.mk rfl ?_ ?_) | (refine CallS.z ?_; (conv => whnf); refine CallM.mk rfl ?_ ?_))
      all_goals (try (conv => whnf))
      all_goals (try (exact Ob.mk (u8_bnd _)))
      all_goals (try (refine Ob.mk ?_; first | exact True.intro | assumption | omega | (try simp only [decide_eq_true_eq, decide_eq_false_iff_not, beq_iff_eq, beq_eq_false_iff_ne, bne_iff_ne, bne_eq_false_iff_eq, ne_eq, Bool.and_eq_true, Bool.or_eq_true, Bool.not_eq_true, Bool.not_eq_false, Bool.not_eq_true', Bool.not_eq_false', Int.toNat_natCast, Int.not_lt, Int.not_le, UInt8.ofNat_toNat, cast_eq] at *; omega)))
      all_goals (try ((show (_:Int) = _); omega))
      all_goals (try (show tupSV _ = _; with_unfolding_all rfl))
      all_goals (try ((show (_ : Nat) ≤ _); (simp <;> omega)))
      all_goals (try ((show (_ : Nat) ≤ _ ∧ (_ : Nat) ≤ _); (simp <;> omega)))
      all_goals (try ((show (_ : Int) ≤ _ ∧ (_ : Int) ≤ _ ∧ (_ : Int) ≤ _ ∧ (_ : Int) ≤ _); (simp <;> omega)))
      all_goals (try simp only [decide_eq_true_eq, decide_eq_false_iff_not, beq_iff_eq, beq_eq_false_iff_ne, bne_iff_ne, bne_eq_false_iff_eq, ne_eq, Bool.and_eq_true, Bool.or_eq_true, Bool.not_eq_true, Bool.not_eq_false, Bool.not_eq_true', Bool.not_eq_false', Int.toNat_natCast, Int.not_lt, Int.not_le, UInt8.ofNat_toNat, cast_eq] at *)
      · have h : i < l.length := by omega
        rw [attrsOk, all_false_at h (d := attrTy.dflt)]
        · simp
        · simp_all; omega
      · have h : i < l.length := by omega
        refine Rnd.mk ⟨i + 1, ?_, ?_, ?_⟩
        · refine ⟨by omega, ?_⟩
          rw [take_all _ l i attrTy.dflt h, ha]
          simp_all
          omega
        · omega
        · repeat' ((conv => whnf); first | (with_reducible rfl) | exact True.intro | (with_reducible exact absTF) | (with_reducible exact absFT) | intro _ | refine And.intro ?_ ?_ | refine Fin.mk ?_ | refine CallG.plain rfl ?_ ?_ | refine CallG.mk rfl ?_ ?_ | refine CallG.nwl rfl ?_ ?_ | refine CallG.nw ?_ ?_ | refine CallF.nwl rfl ?_ ?_ | refine CallF.nw ?_ ?_ | refine AppN.mk ?_ | (refine CallS.q ?_; (conv => whnf); first | refine CallG.plain rfl ?_ ?_ | refine CallG.mk rfl ?_ ?_) | (refine CallS.m ?_; (conv => whnf); refine CallM.mk rfl ?_ ?_) | (refine CallS.h ?_; (conv => whnf); refine CallM.mk rfl ?_ ?_) | (refine CallS.b ?_; (conv => whnf); refine CallM.mk rfl ?_ ?_) | (refine CallS.z ?_; (conv => whnf); refine CallM.mk rfl ?_ ?_))
          all_goals (try (conv => whnf))
          all_goals (try (exact Ob.mk (u8_bnd _)))
          all_goals (try (refine Ob.mk ?_; first | exact True.intro | assumption | omega | (try simp only [decide_eq_true_eq, decide_eq_false_iff_not, beq_iff_eq, beq_eq_false_iff_ne, bne_iff_ne, bne_eq_false_iff_eq, ne_eq, Bool.and_eq_true, Bool.or_eq_true, Bool.not_eq_true, Bool.not_eq_false, Bool.not_eq_true', Bool.not_eq_false', Int.toNat_natCast, Int.not_lt, Int.not_le, UInt8.ofNat_toNat, cast_eq] at *; omega)))
          all_goals (try ((show (_:Int) = _); omega))
          all_goals (try (show tupSV _ = _; with_unfolding_all rfl))
          all_goals (try ((show (_ : Nat) ≤ _); (simp <;> omega)))
          all_goals (try ((show (_ : Nat) ≤ _ ∧ (_ : Nat) ≤ _); (simp <;> omega)))
          all_goals (try ((show (_ : Int) ≤ _ ∧ (_ : Int) ≤ _ ∧ (_ : Int) ≤ _ ∧ (_ : Int) ≤ _); (simp <;> omega)))
      · have : i = l.length := by omega
        subst this
        rw [List.take_length] at ha
        rw [attrsOk, ha, decide_eq_true (by omega)]; rfl
def nodeOk (n : NodeD) : Bool := decide ((n.2.2.1.length : Int) ≤ 40) && decide ((n.2.2.2.2.1.length : Int) ≤ 300) && decide ((n.kids.length : Int) ≤ 60) && attrsOk n.2.2.2.1
instance f9 (k s : Int) (nm : List UInt8) (at_ : List AttrD) (d : List UInt8) (up : Int) (kids : List Int) :
    Fn BB 19 [.agg [.int .i64 k, .int .i64 s, .str nm, .rd attrTy at_, .str d, .int .i64 up, .rd intTy kids]] True (.bool (nodeOk (k, s, nm, at_, d, up, kids))) := by
  refine Fn.intro (N := 24) [0, 1, 2] [] Try.call19 Try.func19 rfl rfl (by kernel_rfl) (fun hpre => ?_)
  repeat' ((conv => whnf); first | (with_reducible rfl) | exact True.intro | (with_reducible exact absTF) | (with_reducible exact absFT) | intro _ | refine And.intro ?_ ?_ | refine Fin.mk ?_ | refine CallG.plain rfl ?_ ?_ | refine CallG.mk rfl ?_ ?_ | refine CallG.nwl rfl ?_ ?_ | refine CallG.nw ?_ ?_ | refine CallF.nwl rfl ?_ ?_ | refine CallF.nw ?_ ?_ | refine AppN.mk ?_ | (refine CallS.q ?_; (conv => whnf); first | refine CallG.plain rfl ?_ ?_ | refine CallG.mk rfl ?_ ?_) | (refine CallS.m ?_; (conv => whnf); refine CallM.mk rfl ?_ ?_) | (refine CallS.h ?_; (conv => whnf); refine CallM.mk rfl ?_ ?_) | (refine CallS.b ?_; (conv => whnf); refine CallM.mk rfl ?_ ?_) | (refine CallS.z ?_; (conv => whnf); refine CallM.mk rfl ?_ ?_))
  all_goals (try (conv => whnf))
  all_goals (try (exact Ob.mk (u8_bnd _)))
  all_goals (try (refine Ob.mk ?_; first | exact True.intro | assumption | omega | (try simp only [decide_eq_true_eq, decide_eq_false_iff_not, beq_iff_eq, beq_eq_false_iff_ne, bne_iff_ne, bne_eq_false_iff_eq, ne_eq, Bool.and_eq_true, Bool.or_eq_true, Bool.not_eq_true, Bool.not_eq_false, Bool.not_eq_true', Bool.not_eq_false', Int.toNat_natCast, Int.not_lt, Int.not_le, UInt8.ofNat_toNat, cast_eq] at *; omega)))
  all_goals (try ((show (_:Int) = _); omega))
  all_goals (try (show tupSV _ = _; with_unfolding_all rfl))
  all_goals (try ((show (_ : Nat) ≤ _); (simp <;> omega)))
  all_goals (try ((show (_ : Nat) ≤ _ ∧ (_ : Nat) ≤ _); (simp <;> omega)))
  all_goals (try ((show (_ : Int) ≤ _ ∧ (_ : Int) ≤ _ ∧ (_ : Int) ≤ _ ∧ (_ : Int) ≤ _); (simp <;> omega)))
  all_goals (try rfl)
def treeOk (l : List NodeD) (most : Int) : Bool := decide (l.length ≤ most) && l.all nodeOk
instance f8 (l : List NodeD) (most : Int) : Fn BB 6 [.agg [.rd nodeTy l], .int .i64 most] True (.bool (treeOk l most)) := by
  refine Fn.intro (N := 23) [0, 1, 2, 4, 6, 11, 13, 14, 15, 16, 21] [] Try.call6 Try.func6 rfl rfl (by kernel_rfl) (fun hpre => ?_)
  repeat' ((conv => whnf); first | (with_reducible rfl) | exact True.intro | (with_reducible exact absTF) | (with_reducible exact absFT) | intro _ | refine And.intro ?_ ?_ | refine Fin.mk ?_ | refine CallG.plain rfl ?_ ?_ | refine CallG.mk rfl ?_ ?_ | refine CallG.nwl rfl ?_ ?_ | refine CallG.nw ?_ ?_ | refine CallF.nwl rfl ?_ ?_ | refine CallF.nw ?_ ?_ | refine AppN.mk ?_ | (refine CallS.q ?_; (conv => whnf); first | refine CallG.plain rfl ?_ ?_ | refine CallG.mk rfl ?_ ?_) | (refine CallS.m ?_; (conv => whnf); refine CallM.mk rfl ?_ ?_) | (refine CallS.h ?_; (conv => whnf); refine CallM.mk rfl ?_ ?_) | (refine CallS.b ?_; (conv => whnf); refine CallM.mk rfl ?_ ?_) | (refine CallS.z ?_; (conv => whnf); refine CallM.mk rfl ?_ ?_))
  all_goals (try (conv => whnf))
  · simp only [treeOk, decide_eq_true_eq] at *
    rw [decide_eq_false (by omega)]; rfl
  · refine LoopStop.mk (α := Nat) (fun i => [(15, .int .i64 i)]) (fun _ => []) 20 (fun i => i ≤ l.length ∧ (l.take i).all nodeOk = true) (fun i => l.length - i) 0 (by simp) ?_ (fun i hi => ?_)
    · repeat' ((conv => whnf); first | (with_reducible rfl) | exact True.intro | (with_reducible exact absTF) | (with_reducible exact absFT) | intro _ | refine And.intro ?_ ?_ | refine Fin.mk ?_ | refine CallG.plain rfl ?_ ?_ | refine CallG.mk rfl ?_ ?_ | refine CallG.nwl rfl ?_ ?_ | refine CallG.nw ?_ ?_ | refine CallF.nwl rfl ?_ ?_ | refine CallF.nw ?_ ?_ | refine AppN.mk ?_ | (refine CallS.q ?_; (conv => whnf); first | refine CallG.plain rfl ?_ ?_ | refine CallG.mk rfl ?_ ?_) | (refine CallS.m ?_; (conv => whnf); refine CallM.mk rfl ?_ ?_) | (refine CallS.h ?_; (conv => whnf); refine CallM.mk rfl ?_ ?_) | (refine CallS.b ?_; (conv => whnf); refine CallM.mk rfl ?_ ?_) | (refine CallS.z ?_; (conv => whnf); refine CallM.mk rfl ?_ ?_))
      all_goals (try (conv => whnf))
      all_goals (try rfl)
    · obtain ⟨hi, ha⟩ := hi
      repeat' ((conv => whnf); first | (with_reducible rfl) | exact True.intro | (with_reducible exact absTF) | (with_reducible exact absFT) | intro _ | refine And.intro ?_ ?_ | refine Fin.mk ?_ | refine CallG.plain rfl ?_ ?_ | refine CallG.mk rfl ?_ ?_ | refine CallG.nwl rfl ?_ ?_ | refine CallG.nw ?_ ?_ | refine CallF.nwl rfl ?_ ?_ | refine CallF.nw ?_ ?_ | refine AppN.mk ?_ | (refine CallS.q ?_; (conv => whnf); first | refine CallG.plain rfl ?_ ?_ | refine CallG.mk rfl ?_ ?_) | (refine CallS.m ?_; (conv => whnf); refine CallM.mk rfl ?_ ?_) | (refine CallS.h ?_; (conv => whnf); refine CallM.mk rfl ?_ ?_) | (refine CallS.b ?_; (conv => whnf); refine CallM.mk rfl ?_ ?_) | (refine CallS.z ?_; (conv => whnf); refine CallM.mk rfl ?_ ?_))
      all_goals (try (conv => whnf))
      all_goals (try (exact Ob.mk (u8_bnd _)))
      all_goals (try (refine Ob.mk ?_; first | exact True.intro | assumption | omega | (try simp only [decide_eq_true_eq, decide_eq_false_iff_not, beq_iff_eq, beq_eq_false_iff_ne, bne_iff_ne, bne_eq_false_iff_eq, ne_eq, Bool.and_eq_true, Bool.or_eq_true, Bool.not_eq_true, Bool.not_eq_false, Bool.not_eq_true', Bool.not_eq_false', Int.toNat_natCast, Int.not_lt, Int.not_le, UInt8.ofNat_toNat, cast_eq] at *; omega)))
      all_goals (try ((show (_:Int) = _); omega))
      all_goals (try (show tupSV _ = _; with_unfolding_all rfl))
      all_goals (try ((show (_ : Nat) ≤ _); (simp <;> omega)))
      all_goals (try ((show (_ : Nat) ≤ _ ∧ (_ : Nat) ≤ _); (simp <;> omega)))
      all_goals (try ((show (_ : Int) ≤ _ ∧ (_ : Int) ≤ _ ∧ (_ : Int) ≤ _ ∧ (_ : Int) ≤ _); (simp <;> omega)))
      all_goals (try simp only [decide_eq_true_eq, decide_eq_false_iff_not, beq_iff_eq, beq_eq_false_iff_ne, bne_iff_ne, bne_eq_false_iff_eq, ne_eq, Bool.and_eq_true, Bool.or_eq_true, Bool.not_eq_true, Bool.not_eq_false, Bool.not_eq_true', Bool.not_eq_false', Int.toNat_natCast, Int.not_lt, Int.not_le, UInt8.ofNat_toNat, cast_eq] at *)
      · have h : i < l.length := by omega
        rw [treeOk, all_false_at h (d := nodeTy.dflt)]
        · simp
        · simp_all
      · have h : i < l.length := by omega
        refine Rnd.mk ⟨i + 1, ?_, ?_, ?_⟩
        · refine ⟨by omega, ?_⟩
          rw [take_all _ l i nodeTy.dflt h, ha]
          simp_all
        · omega
        · repeat' ((conv => whnf); first | (with_reducible rfl) | exact True.intro | (with_reducible exact absTF) | (with_reducible exact absFT) | intro _ | refine And.intro ?_ ?_ | refine Fin.mk ?_ | refine CallG.plain rfl ?_ ?_ | refine CallG.mk rfl ?_ ?_ | refine CallG.nwl rfl ?_ ?_ | refine CallG.nw ?_ ?_ | refine CallF.nwl rfl ?_ ?_ | refine CallF.nw ?_ ?_ | refine AppN.mk ?_ | (refine CallS.q ?_; (conv => whnf); first | refine CallG.plain rfl ?_ ?_ | refine CallG.mk rfl ?_ ?_) | (refine CallS.m ?_; (conv => whnf); refine CallM.mk rfl ?_ ?_) | (refine CallS.h ?_; (conv => whnf); refine CallM.mk rfl ?_ ?_) | (refine CallS.b ?_; (conv => whnf); refine CallM.mk rfl ?_ ?_) | (refine CallS.z ?_; (conv => whnf); refine CallM.mk rfl ?_ ?_))
          all_goals (try (conv => whnf))
          all_goals (try (exact Ob.mk (u8_bnd _)))
          all_goals (try (refine Ob.mk ?_; first | exact True.intro | assumption | omega | (try simp only [decide_eq_true_eq, decide_eq_false_iff_not, beq_iff_eq, beq_eq_false_iff_ne, bne_iff_ne, bne_eq_false_iff_eq, ne_eq, Bool.and_eq_true, Bool.or_eq_true, Bool.not_eq_true, Bool.not_eq_false, Bool.not_eq_true', Bool.not_eq_false', Int.toNat_natCast, Int.not_lt, Int.not_le, UInt8.ofNat_toNat, cast_eq] at *; omega)))
          all_goals (try ((show (_:Int) = _); omega))
          all_goals (try (show tupSV _ = _; with_unfolding_all rfl))
          all_goals (try ((show (_ : Nat) ≤ _); (simp <;> omega)))
          all_goals (try ((show (_ : Nat) ≤ _ ∧ (_ : Nat) ≤ _); (simp <;> omega)))
          all_goals (try ((show (_ : Int) ≤ _ ∧ (_ : Int) ≤ _ ∧ (_ : Int) ≤ _ ∧ (_ : Int) ≤ _); (simp <;> omega)))
      · have : i = l.length := by omega
        subst this
        rw [List.take_length] at ha
        rw [treeOk, ha, decide_eq_true (by omega)]; rfl
end Go.Vc

namespace Go.Vc
open Go.Proofs
set_option linter.unusedVariables false
set_option maxRecDepth 10000
set_option linter.unusedSimpArgs false
instance f14 (l : List Int) : FnM BB 34 [.rd intTy l] [] (l.length ≤ 100000) (.own 0) [(0, .own intTy l)] := by
  refine FnM.intro (N := 8) [0, 2, 4] [] 1 Try.call34 Try.func34 rfl rfl (by kernel_rfl) (fun hpre => ?_)
  repeat' ((conv => whnf); first | (with_reducible rfl) | exact True.intro | (with_reducible exact absTF) | (with_reducible exact absFT) | intro _ | refine And.intro ?_ ?_ | refine Fin.mk ?_ | refine CallG.plain rfl ?_ ?_ | refine CallG.mk rfl ?_ ?_ | refine CallG.nwl rfl ?_ ?_ | refine CallG.nw ?_ ?_ | refine CallF.nwl rfl ?_ ?_ | refine CallF.nw ?_ ?_ | refine AppN.mk ?_ | (refine CallS.q ?_; (conv => whnf); first | refine CallG.plain rfl ?_ ?_ | refine CallG.mk rfl ?_ ?_) | (refine CallS.m ?_; (conv => whnf); refine CallM.mk rfl ?_ ?_) | (refine CallS.h ?_; (conv => whnf); refine CallM.mk rfl ?_ ?_) | (refine CallS.b ?_; (conv => whnf); refine CallM.mk rfl ?_ ?_) | (refine CallS.z ?_; (conv => whnf); refine CallM.mk rfl ?_ ?_))
  all_goals (try (conv => whnf))
  all_goals (try (exact Ob.mk (u8_bnd _)))
  all_goals (try (refine Ob.mk ?_; first | exact True.intro | assumption | omega | (try simp only [decide_eq_true_eq, decide_eq_false_iff_not, beq_iff_eq, beq_eq_false_iff_ne, bne_iff_ne, bne_eq_false_iff_eq, ne_eq, Bool.and_eq_true, Bool.or_eq_true, Bool.not_eq_true, Bool.not_eq_false, Bool.not_eq_true', Bool.not_eq_false', Int.toNat_natCast, Int.not_lt, Int.not_le, UInt8.ofNat_toNat, cast_eq] at *; omega)))
  all_goals (try ((show (_:Int) = _); omega))
  all_goals (try (show tupSV _ = _; with_unfolding_all rfl))
  all_goals (try ((show (_ : Nat) ≤ _); (simp <;> omega)))
  all_goals (try ((show (_ : Nat) ≤ _ ∧ (_ : Nat) ≤ _); (simp <;> omega)))
  all_goals (try ((show (_ : Int) ≤ _ ∧ (_ : Int) ≤ _ ∧ (_ : Int) ≤ _ ∧ (_ : Int) ≤ _); (simp <;> omega)))
  all_goals (try simp_all)
instance f36 (l : List AttrD) : FnM BB 35 [.rd attrTy l] [] (l.length ≤ 100000) (.own 0) [(0, .own attrTy l)] := by
  refine FnM.intro (N := 8) [0, 2, 4] [] 1 Try.call35 Try.func35 rfl rfl (by kernel_rfl) (fun hpre => ?_)
  repeat' ((conv => whnf); first | (with_reducible rfl) | exact True.intro | (with_reducible exact absTF) | (with_reducible exact absFT) | intro _ | refine And.intro ?_ ?_ | refine Fin.mk ?_ | refine CallG.plain rfl ?_ ?_ | refine CallG.mk rfl ?_ ?_ | refine CallG.nwl rfl ?_ ?_ | refine CallG.nw ?_ ?_ | refine CallF.nwl rfl ?_ ?_ | refine CallF.nw ?_ ?_ | refine AppN.mk ?_ | (refine CallS.q ?_; (conv => whnf); first | refine CallG.plain rfl ?_ ?_ | refine CallG.mk rfl ?_ ?_) | (refine CallS.m ?_; (conv => whnf); refine CallM.mk rfl ?_ ?_) | (refine CallS.h ?_; (conv => whnf); refine CallM.mk rfl ?_ ?_) | (refine CallS.b ?_; (conv => whnf); refine CallM.mk rfl ?_ ?_) | (refine CallS.z ?_; (conv => whnf); refine CallM.mk rfl ?_ ?_))
  all_goals (try (conv => whnf))
  all_goals (try (exact Ob.mk (u8_bnd _)))
  all_goals (try (refine Ob.mk ?_; first | exact True.intro | assumption | omega | (try simp only [decide_eq_true_eq, decide_eq_false_iff_not, beq_iff_eq, beq_eq_false_iff_ne, bne_iff_ne, bne_eq_false_iff_eq, ne_eq, Bool.and_eq_true, Bool.or_eq_true, Bool.not_eq_true, Bool.not_eq_false, Bool.not_eq_true', Bool.not_eq_false', Int.toNat_natCast, Int.not_lt, Int.not_le, UInt8.ofNat_toNat, cast_eq] at *; omega)))
  all_goals (try ((show (_:Int) = _); omega))
  all_goals (try (show tupSV _ = _; with_unfolding_all rfl))
  all_goals (try ((show (_ : Nat) ≤ _); (simp <;> omega)))
  all_goals (try ((show (_ : Nat) ≤ _ ∧ (_ : Nat) ≤ _); (simp <;> omega)))
  all_goals (try ((show (_ : Int) ≤ _ ∧ (_ : Int) ≤ _ ∧ (_ : Int) ≤ _ ∧ (_ : Int) ≤ _); (simp <;> omega)))
  all_goals (try simp_all)
def ixOf (l : List Int) (w : Int) : Int := if l.contains w then (l.idxOf w : Int) else -1
theorem ixOf_none {l : List Int} {w : Int} (h : l.contains w = false) : ixOf l w = -1 := by rw [ixOf, h]; rfl
theorem take_has (l : List Int) (i : Nat) (w : Int) (h : i < l.length) : (l.take (i+1)).contains w = ((l.take i).contains w || (l.getD i 0 == w)) := by
  rw [take_snoc l i 0 h]
  simp only [List.contains_eq_any_beq, List.any_append, List.any_cons, List.any_nil, Bool.or_false]
  congr 1
  exact Bool.beq_comm
theorem ixOf_at {l : List Int} {w : Int} {i : Nat} (h : i < l.length) (h1 : (l.take i).contains w = false) (h2 : w = l.getD i 0) : ixOf l w = i := by
  have hc : l.contains w = true := by rw [h2]; simp [List.getD, List.getElem?_eq_getElem h]
  rw [ixOf, hc, if_pos rfl]
  have e := List.take_append_drop i l
  rw [← e, List.idxOf_append, if_neg (by simpa using h1), List.length_take, Nat.min_eq_left (by omega)]
  have e2 : l.drop i = w :: l.drop (i+1) := by rw [List.drop_eq_getElem_cons h, h2]; simp [List.getD, List.getElem?_eq_getElem h]
  rw [e2, List.idxOf_cons_self]; simp
instance f41 (l : List Int) (w : Int) : Fn BB 40 [.rd intTy l, .int .i64 w] True (.int .i64 (ixOf l w)) := by
  refine Fn.intro (N := 19) [0, 1, 4, 5, 7, 8, 9, 16] [] Try.call40 Try.func40 rfl rfl (by kernel_rfl) (fun hpre => ?_)
  repeat' ((conv => whnf); first | (with_reducible rfl) | exact True.intro | (with_reducible exact absTF) | (with_reducible exact absFT) | intro _ | refine And.intro ?_ ?_ | refine Fin.mk ?_ | refine CallG.plain rfl ?_ ?_ | refine CallG.mk rfl ?_ ?_ | refine CallG.nwl rfl ?_ ?_ | refine CallG.nw ?_ ?_ | refine CallF.nwl rfl ?_ ?_ | refine CallF.nw ?_ ?_ | refine AppN.mk ?_ | (refine CallS.q ?_; (conv => whnf); first | refine CallG.plain rfl ?_ ?_ | refine CallG.mk rfl ?_ ?_) | (refine CallS.m ?_; (conv => whnf); refine CallM.mk rfl ?_ ?_) | (refine CallS.h ?_; (conv => whnf); refine CallM.mk rfl ?_ ?_) | (refine CallS.b ?_; (conv => whnf); refine CallM.mk rfl ?_ ?_) | (refine CallS.z ?_; (conv => whnf); refine CallM.mk rfl ?_ ?_))
  all_goals (try (conv => whnf))
  refine LoopStop.mk (α := Nat) (fun i => [(8, .int .i64 i)]) (fun i => []) 20 (fun i => i ≤ l.length ∧ (l.take i).contains w = false) (fun i => l.length - i) 0 (by simp) ?_ (fun i hi => ?_)
  · repeat' ((conv => whnf); first | (with_reducible rfl) | exact True.intro | (with_reducible exact absTF) | (with_reducible exact absFT) | intro _ | refine And.intro ?_ ?_ | refine Fin.mk ?_ | refine CallG.plain rfl ?_ ?_ | refine CallG.mk rfl ?_ ?_ | refine CallG.nwl rfl ?_ ?_ | refine CallG.nw ?_ ?_ | refine CallF.nwl rfl ?_ ?_ | refine CallF.nw ?_ ?_ | refine AppN.mk ?_ | (refine CallS.q ?_; (conv => whnf); first | refine CallG.plain rfl ?_ ?_ | refine CallG.mk rfl ?_ ?_) | (refine CallS.m ?_; (conv => whnf); refine CallM.mk rfl ?_ ?_) | (refine CallS.h ?_; (conv => whnf); refine CallM.mk rfl ?_ ?_) | (refine CallS.b ?_; (conv => whnf); refine CallM.mk rfl ?_ ?_) | (refine CallS.z ?_; (conv => whnf); refine CallM.mk rfl ?_ ?_))
    all_goals (try (conv => whnf))
    all_goals (try rfl)
  · obtain ⟨hi, ha⟩ := hi
    repeat' ((conv => whnf); first | (with_reducible rfl) | exact True.intro | (with_reducible exact absTF) | (with_reducible exact absFT) | intro _ | refine And.intro ?_ ?_ | refine Fin.mk ?_ | refine CallG.plain rfl ?_ ?_ | refine CallG.mk rfl ?_ ?_ | refine CallG.nwl rfl ?_ ?_ | refine CallG.nw ?_ ?_ | refine CallF.nwl rfl ?_ ?_ | refine CallF.nw ?_ ?_ | refine AppN.mk ?_ | (refine CallS.q ?_; (conv => whnf); first | refine CallG.plain rfl ?_ ?_ | refine CallG.mk rfl ?_ ?_) | (refine CallS.m ?_; (conv => whnf); refine CallM.mk rfl ?_ ?_) | (refine CallS.h ?_; (conv => whnf); refine CallM.mk rfl ?_ ?_) | (refine CallS.b ?_; (conv => whnf); refine CallM.mk rfl ?_ ?_) | (refine CallS.z ?_; (conv => whnf); refine CallM.mk rfl ?_ ?_))
    all_goals (try (conv => whnf))
    all_goals (try (exact Ob.mk (u8_bnd _)))
    all_goals (try (refine Ob.mk ?_; first | exact True.intro | assumption | omega | (try simp only [decide_eq_true_eq, decide_eq_false_iff_not, beq_iff_eq, beq_eq_false_iff_ne, bne_iff_ne, bne_eq_false_iff_eq, ne_eq, Bool.and_eq_true, Bool.or_eq_true, Bool.not_eq_true, Bool.not_eq_false, Bool.not_eq_true', Bool.not_eq_false', Int.toNat_natCast, Int.not_lt, Int.not_le, UInt8.ofNat_toNat, cast_eq] at *; omega)))
    all_goals (try ((show (_:Int) = _); omega))
    all_goals (try (show tupSV _ = _; with_unfolding_all rfl))
    all_goals (try ((show (_ : Nat) ≤ _); (simp <;> omega)))
    all_goals (try ((show (_ : Nat) ≤ _ ∧ (_ : Nat) ≤ _); (simp <;> omega)))
    all_goals (try ((show (_ : Int) ≤ _ ∧ (_ : Int) ≤ _ ∧ (_ : Int) ≤ _ ∧ (_ : Int) ≤ _); (simp <;> omega)))
    all_goals (try simp only [decide_eq_true_eq, decide_eq_false_iff_not, beq_iff_eq, beq_eq_false_iff_ne, bne_iff_ne, bne_eq_false_iff_eq, ne_eq, Bool.and_eq_true, Bool.or_eq_true, Bool.not_eq_true, Bool.not_eq_false, Bool.not_eq_true', Bool.not_eq_false', Int.toNat_natCast, Int.not_lt, Int.not_le, UInt8.ofNat_toNat, cast_eq] at *)
    · rw [ixOf_at (i := i) (by omega) (by simpa using ha) (by assumption)]
    · have h : i < l.length := by omega
      refine Rnd.mk ⟨i + 1, ?_, ?_, ?_⟩
      · refine ⟨by omega, ?_⟩
        rw [take_has l i w h, Bool.or_eq_false_iff]
        refine ⟨by simpa using ha, beq_eq_false_iff_ne.2 fun e => ?_⟩
        simp_all
      · omega
      · repeat' ((conv => whnf); first | (with_reducible rfl) | exact True.intro | (with_reducible exact absTF) | (with_reducible exact absFT) | intro _ | refine And.intro ?_ ?_ | refine Fin.mk ?_ | refine CallG.plain rfl ?_ ?_ | refine CallG.mk rfl ?_ ?_ | refine CallG.nwl rfl ?_ ?_ | refine CallG.nw ?_ ?_ | refine CallF.nwl rfl ?_ ?_ | refine CallF.nw ?_ ?_ | refine AppN.mk ?_ | (refine CallS.q ?_; (conv => whnf); first | refine CallG.plain rfl ?_ ?_ | refine CallG.mk rfl ?_ ?_) | (refine CallS.m ?_; (conv => whnf); refine CallM.mk rfl ?_ ?_) | (refine CallS.h ?_; (conv => whnf); refine CallM.mk rfl ?_ ?_) | (refine CallS.b ?_; (conv => whnf); refine CallM.mk rfl ?_ ?_) | (refine CallS.z ?_; (conv => whnf); refine CallM.mk rfl ?_ ?_))
        all_goals (try (conv => whnf))
        all_goals (try (exact Ob.mk (u8_bnd _)))
        all_goals (try (refine Ob.mk ?_; first | exact True.intro | assumption | omega | (try simp only [decide_eq_true_eq, decide_eq_false_iff_not, beq_iff_eq, beq_eq_false_iff_ne, bne_iff_ne, bne_eq_false_iff_eq, ne_eq, Bool.and_eq_true, Bool.or_eq_true, Bool.not_eq_true, Bool.not_eq_false, Bool.not_eq_true', Bool.not_eq_false', Int.toNat_natCast, Int.not_lt, Int.not_le, UInt8.ofNat_toNat, cast_eq] at *; omega)))
        all_goals (try ((show (_:Int) = _); omega))
        all_goals (try (show tupSV _ = _; with_unfolding_all rfl))
        all_goals (try ((show (_ : Nat) ≤ _); (simp <;> omega)))
        all_goals (try ((show (_ : Nat) ≤ _ ∧ (_ : Nat) ≤ _); (simp <;> omega)))
        all_goals (try ((show (_ : Int) ≤ _ ∧ (_ : Int) ≤ _ ∧ (_ : Int) ≤ _ ∧ (_ : Int) ≤ _); (simp <;> omega)))
    · have : i = l.length := by omega
      subst this
      rw [ixOf_none (by simpa using ha)]
end Go.Vc

namespace Go.Vc
open Go.Proofs
set_option linter.unusedVariables false
set_option maxRecDepth 10000
set_option linter.unusedSimpArgs false
abbrev nd (l : List NodeD) (i : Int) : NodeD := l.getD i.toNat nodeTy.dflt
def placeT (l : List NodeD) (kid : Int) : Int := if isT l kid && isT l (nd l kid).up then ixOf (nd l (nd l kid).up).kids kid else -1
theorem isT_iff {l : List NodeD} {i : Int} : isT l i = true ↔ 0 ≤ i ∧ i < l.length := by simp [isT]
theorem not_or_true {a b : Bool} (h : (!a || !b) = true) : (a && b) = false := by cases a <;> cases b <;> simp_all
theorem not_or_false {a b : Bool} (h : (!a || !b) = false) : a = true ∧ b = true := by cases a <;> cases b <;> simp_all
instance f34 (l : List NodeD) (kid : Int) : Fn BB 36 [.agg [.rd nodeTy l], .int .i64 kid] True (.int .i64 (placeT l kid)) := by
  refine Fn.intro (N := 33) [0, 1, 2, 4, 19] [(1, [1, 0, 1, 1, 1, 1, 1, 1, 1, 1, 1, 1, 3, 3, 3]), (3, [0, 1, 0, 1, 0, 1, 1, 1, 3, 3, 3, 0, 3, 3])] Try.call36 Try.func36 rfl rfl (by kernel_rfl) (fun hpre => ?_)
  repeat' ((conv => whnf); first | (with_reducible rfl) | exact True.intro | (with_reducible exact absTF) | (with_reducible exact absFT) | intro _ | refine And.intro ?_ ?_ | refine Fin.mk ?_ | refine CallG.plain rfl ?_ ?_ | refine CallG.mk rfl ?_ ?_ | refine CallG.nwl rfl ?_ ?_ | refine CallG.nw ?_ ?_ | refine CallF.nwl rfl ?_ ?_ | refine CallF.nw ?_ ?_ | refine AppN.mk ?_ | (refine CallS.q ?_; (conv => whnf); first | refine CallG.plain rfl ?_ ?_ | refine CallG.mk rfl ?_ ?_) | (refine CallS.m ?_; (conv => whnf); refine CallM.mk rfl ?_ ?_) | (refine CallS.h ?_; (conv => whnf); refine CallM.mk rfl ?_ ?_) | (refine CallS.b ?_; (conv => whnf); refine CallM.mk rfl ?_ ?_) | (refine CallS.z ?_; (conv => whnf); refine CallM.mk rfl ?_ ?_))
  all_goals (try (conv => whnf))
  all_goals (try (exact Ob.mk (u8_bnd _)))
  all_goals (try (refine Ob.mk ?_; first | exact True.intro | assumption | omega | (try simp only [decide_eq_true_eq, decide_eq_false_iff_not, beq_iff_eq, beq_eq_false_iff_ne, bne_iff_ne, bne_eq_false_iff_eq, ne_eq, Bool.and_eq_true, Bool.or_eq_true, Bool.not_eq_true, Bool.not_eq_false, Bool.not_eq_true', Bool.not_eq_false', Int.toNat_natCast, Int.not_lt, Int.not_le, UInt8.ofNat_toNat, cast_eq] at *; omega)))
  all_goals (try ((show (_:Int) = _); omega))
  all_goals (try (show tupSV _ = _; with_unfolding_all rfl))
  all_goals (try ((show (_ : Nat) ≤ _); (simp <;> omega)))
  all_goals (try ((show (_ : Nat) ≤ _ ∧ (_ : Nat) ≤ _); (simp <;> omega)))
  all_goals (try ((show (_ : Int) ≤ _ ∧ (_ : Int) ≤ _ ∧ (_ : Int) ≤ _ ∧ (_ : Int) ≤ _); (simp <;> omega)))
  · exact isT_iff.1 (by simp_all)
  · rename_i h
    rw [placeT]
    have h := not_or_true h
    rw [show (isT l kid && isT l (nd l kid).up) = false from h]; rfl
  · exact isT_iff.1 (not_or_false ‹_›).1
  · exact isT_iff.1 (not_or_false ‹_›).2
  · rename_i h
    obtain ⟨h1, h2⟩ := not_or_false h
    rw [placeT, show isT l (nd l kid).up = true from h2, h1]; rfl
def holdsF : Nat → List NodeD → Int → Int → Bool
  | 0, _, _, _ => false
  | n + 1, l, up, kid => if isT l kid then (if kid = up then true else holdsF n l up (nd l kid).up) else false
def holdsT (l : List NodeD) (up kid : Int) : Bool := isT l up && holdsF (l.length + 1) l up kid
instance f35 (l : List NodeD) (up kid : Int) : Fn BB 31 [.agg [.rd nodeTy l], .int .i64 up, .int .i64 kid] (l.length ≤ 100000) (.bool (holdsT l up kid)) := by
  refine Fn.intro (N := 31) [0, 1, 2, 3, 6, 10, 14, 15, 16, 20, 23] [] Try.call31 Try.func31 rfl rfl (by kernel_rfl) (fun hpre => ?_)
  repeat' ((conv => whnf); first | (with_reducible rfl) | exact True.intro | (with_reducible exact absTF) | (with_reducible exact absFT) | intro _ | refine And.intro ?_ ?_ | refine Fin.mk ?_ | refine CallG.plain rfl ?_ ?_ | refine CallG.mk rfl ?_ ?_ | refine CallG.nwl rfl ?_ ?_ | refine CallG.nw ?_ ?_ | refine CallF.nwl rfl ?_ ?_ | refine CallF.nw ?_ ?_ | refine AppN.mk ?_ | (refine CallS.q ?_; (conv => whnf); first | refine CallG.plain rfl ?_ ?_ | refine CallG.mk rfl ?_ ?_) | (refine CallS.m ?_; (conv => whnf); refine CallM.mk rfl ?_ ?_) | (refine CallS.h ?_; (conv => whnf); refine CallM.mk rfl ?_ ?_) | (refine CallS.b ?_; (conv => whnf); refine CallM.mk rfl ?_ ?_) | (refine CallS.z ?_; (conv => whnf); refine CallM.mk rfl ?_ ?_))
  all_goals (try (conv => whnf))
  all_goals (try (exact Ob.mk (u8_bnd _)))
  all_goals (try (refine Ob.mk ?_; first | exact True.intro | assumption | omega | (try simp only [decide_eq_true_eq, decide_eq_false_iff_not, beq_iff_eq, beq_eq_false_iff_ne, bne_iff_ne, bne_eq_false_iff_eq, ne_eq, Bool.and_eq_true, Bool.or_eq_true, Bool.not_eq_true, Bool.not_eq_false, Bool.not_eq_true', Bool.not_eq_false', Int.toNat_natCast, Int.not_lt, Int.not_le, UInt8.ofNat_toNat, cast_eq] at *; omega)))
  all_goals (try ((show (_:Int) = _); omega))
  all_goals (try (show tupSV _ = _; with_unfolding_all rfl))
  all_goals (try ((show (_ : Nat) ≤ _); (simp <;> omega)))
  all_goals (try ((show (_ : Nat) ≤ _ ∧ (_ : Nat) ≤ _); (simp <;> omega)))
  all_goals (try ((show (_ : Int) ≤ _ ∧ (_ : Int) ≤ _ ∧ (_ : Int) ≤ _ ∧ (_ : Int) ≤ _); (simp <;> omega)))
  · simp_all [holdsT]
  · refine LoopStop.mk (α := Nat × Int) (fun x => [(15, .int .i64 x.1), (2, .int .i64 x.2)]) (fun _ => []) 20 (fun x => x.1 ≤ l.length + 1 ∧ holdsF (l.length + 1 - x.1) l up x.2 = holdsF (l.length + 1) l up kid) (fun x => l.length + 1 - x.1) (0, kid) (by simp) ?_ (fun x hx => ?_)
    · repeat' ((conv => whnf); first | (with_reducible rfl) | exact True.intro | (with_reducible exact absTF) | (with_reducible exact absFT) | intro _ | refine And.intro ?_ ?_ | refine Fin.mk ?_ | refine CallG.plain rfl ?_ ?_ | refine CallG.mk rfl ?_ ?_ | refine CallG.nwl rfl ?_ ?_ | refine CallG.nw ?_ ?_ | refine CallF.nwl rfl ?_ ?_ | refine CallF.nw ?_ ?_ | refine AppN.mk ?_ | (refine CallS.q ?_; (conv => whnf); first | refine CallG.plain rfl ?_ ?_ | refine CallG.mk rfl ?_ ?_) | (refine CallS.m ?_; (conv => whnf); refine CallM.mk rfl ?_ ?_) | (refine CallS.h ?_; (conv => whnf); refine CallM.mk rfl ?_ ?_) | (refine CallS.b ?_; (conv => whnf); refine CallM.mk rfl ?_ ?_) | (refine CallS.z ?_; (conv => whnf); refine CallM.mk rfl ?_ ?_))
      all_goals (try (conv => whnf))
      all_goals (try rfl)
    · obtain ⟨i, k⟩ := x
      obtain ⟨hi, ha⟩ := hx
      have hstep : i < l.length + 1 → holdsF (l.length + 1 - i) l up k = if isT l k then (if k = up then true else holdsF (l.length + 1 - (i + 1)) l up (nd l k).up) else false := by
        intro h
        rw [show l.length + 1 - i = (l.length + 1 - (i + 1)) + 1 by omega]; rfl
      dsimp only at hi ha
      have hg : holdsT l up kid = (isT l up && holdsF (l.length + 1 - i) l up k) := by rw [holdsT, ha]
      repeat' ((conv => whnf); first | (with_reducible rfl) | exact True.intro | (with_reducible exact absTF) | (with_reducible exact absFT) | intro _ | refine And.intro ?_ ?_ | refine Fin.mk ?_ | refine CallG.plain rfl ?_ ?_ | refine CallG.mk rfl ?_ ?_ | refine CallG.nwl rfl ?_ ?_ | refine CallG.nw ?_ ?_ | refine CallF.nwl rfl ?_ ?_ | refine CallF.nw ?_ ?_ | refine AppN.mk ?_ | (refine CallS.q ?_; (conv => whnf); first | refine CallG.plain rfl ?_ ?_ | refine CallG.mk rfl ?_ ?_) | (refine CallS.m ?_; (conv => whnf); refine CallM.mk rfl ?_ ?_) | (refine CallS.h ?_; (conv => whnf); refine CallM.mk rfl ?_ ?_) | (refine CallS.b ?_; (conv => whnf); refine CallM.mk rfl ?_ ?_) | (refine CallS.z ?_; (conv => whnf); refine CallM.mk rfl ?_ ?_))
      all_goals (try (conv => whnf))
      all_goals (try (exact Ob.mk (u8_bnd _)))
      all_goals (try (refine Ob.mk ?_; first | exact True.intro | assumption | omega | (try simp only [decide_eq_true_eq, decide_eq_false_iff_not, beq_iff_eq, beq_eq_false_iff_ne, bne_iff_ne, bne_eq_false_iff_eq, ne_eq, Bool.and_eq_true, Bool.or_eq_true, Bool.not_eq_true, Bool.not_eq_false, Bool.not_eq_true', Bool.not_eq_false', Int.toNat_natCast, Int.not_lt, Int.not_le, UInt8.ofNat_toNat, cast_eq] at *; omega)))
      all_goals (try ((show (_:Int) = _); omega))
      all_goals (try (show tupSV _ = _; with_unfolding_all rfl))
      all_goals (try ((show (_ : Nat) ≤ _); (simp <;> omega)))
      all_goals (try ((show (_ : Nat) ≤ _ ∧ (_ : Nat) ≤ _); (simp <;> omega)))
      all_goals (try ((show (_ : Int) ≤ _ ∧ (_ : Int) ≤ _ ∧ (_ : Int) ≤ _ ∧ (_ : Int) ≤ _); (simp <;> omega)))
      all_goals (simp only [decide_eq_true_eq, decide_eq_false_iff_not, beq_iff_eq, beq_eq_false_iff_ne, Bool.not_eq_true', Bool.not_eq_false'] at *)
      · rw [hg, hstep (by omega)]; simp_all
      · rw [hg, hstep (by omega)]; simp_all
      · exact isT_iff.1 ‹_›
      · refine Rnd.mk ⟨(i + 1, (nd l k).up), ?_, ?_, ?_⟩
        · refine ⟨by omega, ?_⟩
          rw [← ha, hstep (by omega)]
          simp_all
        · simp only []; omega
        · repeat' ((conv => whnf); first | (with_reducible rfl) | exact True.intro | (with_reducible exact absTF) | (with_reducible exact absFT) | intro _ | refine And.intro ?_ ?_ | refine Fin.mk ?_ | refine CallG.plain rfl ?_ ?_ | refine CallG.mk rfl ?_ ?_ | refine CallG.nwl rfl ?_ ?_ | refine CallG.nw ?_ ?_ | refine CallF.nwl rfl ?_ ?_ | refine CallF.nw ?_ ?_ | refine AppN.mk ?_ | (refine CallS.q ?_; (conv => whnf); first | refine CallG.plain rfl ?_ ?_ | refine CallG.mk rfl ?_ ?_) | (refine CallS.m ?_; (conv => whnf); refine CallM.mk rfl ?_ ?_) | (refine CallS.h ?_; (conv => whnf); refine CallM.mk rfl ?_ ?_) | (refine CallS.b ?_; (conv => whnf); refine CallM.mk rfl ?_ ?_) | (refine CallS.z ?_; (conv => whnf); refine CallM.mk rfl ?_ ?_))
          all_goals (try (conv => whnf))
          all_goals (try (exact Ob.mk (u8_bnd _)))
          all_goals (try (refine Ob.mk ?_; first | exact True.intro | assumption | omega | (try simp only [decide_eq_true_eq, decide_eq_false_iff_not, beq_iff_eq, beq_eq_false_iff_ne, bne_iff_ne, bne_eq_false_iff_eq, ne_eq, Bool.and_eq_true, Bool.or_eq_true, Bool.not_eq_true, Bool.not_eq_false, Bool.not_eq_true', Bool.not_eq_false', Int.toNat_natCast, Int.not_lt, Int.not_le, UInt8.ofNat_toNat, cast_eq] at *; omega)))
          all_goals (try ((show (_:Int) = _); omega))
          all_goals (try (show tupSV _ = _; with_unfolding_all rfl))
          all_goals (try ((show (_ : Nat) ≤ _); (simp <;> omega)))
          all_goals (try ((show (_ : Nat) ≤ _ ∧ (_ : Nat) ≤ _); (simp <;> omega)))
          all_goals (try ((show (_ : Int) ≤ _ ∧ (_ : Int) ≤ _ ∧ (_ : Int) ≤ _ ∧ (_ : Int) ≤ _); (simp <;> omega)))
          all_goals (try rfl)
      · have : i = l.length + 1 := by omega
        subst this
        rw [hg]
        simp [holdsF]
end Go.Vc

namespace Go.Vc
open Go.Proofs
set_option linter.unusedVariables false
set_option maxRecDepth 10000
set_option linter.unusedSimpArgs false
def smallT (l : List NodeD) : Bool := decide (l.length ≤ 1000) && l.all fun n => decide (n.2.2.2.1.length ≤ 1000) && decide (n.kids.length ≤ 1000)
end Go.Vc

/-
  DERIVED: THE SHELF's CONTRACTS AT THIS DUMP, IN PLAIN WORDS (tools/lay-plain.mjs out of 'TryShelf.lean', which tools/lay-shelf.mjs wrote): THE SAME DECLARATIONS UNDER THE SAME NAMES: 'import', 'namespace', 'open', 'def', 'theorem' AND NOTHING ELSE: no command of the shelf's: FOR A HAND-IN. Each laying: the table of numbers ('.._ren') and one theorem, a field a fact of the dump's own or the kernel's comparison; each contract: ONE APPLICATION.
-/
namespace Go.Proofs
open Go.Shelf
def Try.laysNm223_ren : Go.Shelf.Ren := ⟨fun | 23 => 37 | n => n, fun | 22 => 29 | 3 => 3 | 4 => 4 | 0 => 0 | n => n, fun | n => n⟩
theorem Try.laysNm223 : Go.Proofs.Lays2.n23 Try.prog Try.laysNm223_ren := {
  mixed := by kernel_rfl
  f23 := Try.func37.trans (congrArg some (by kernel_rfl))
  t0 := Try.underlying0
  a0 := Try.isAgg0
  z0 := Try.sizeOf0
  v0 := Try.zeroValue0
  t3 := Try.underlying3
  a3 := Try.isAgg3
  z3 := Try.sizeOf3
  v3 := Try.zeroValue3
  t4 := Try.underlying4
  a4 := Try.isAgg4
  z4 := Try.sizeOf4
  v4 := Try.zeroValue4
  t22 := Try.underlying29
  a22 := Try.isAgg29
  z22 := Try.sizeOf29
  v22 := Try.zeroValue29
  i3 := by kernel_rfl }
open Go.RowKit Go.Lib Go.Sort in
/-- slices.Delete at []int, of an argument, for i ≤ j ≤ n: the slice cut to n - (j - i) elements; the n cells hold what stood ahead of i, what stood from j on, then zeros. (LAID: no walk: one application.) -/
theorem Try.slices_Delete_int_cells (b off n c i j : Nat) (zs : List Int) (w : World) (hz : n ≤ zs.length) (hcap : n ≤ c) (hm : c ≤ 9223372036854775807) (hij : i ≤ j) (hj : j ≤ n) (hc : ∀ j, j < zs.length → w.cell? ⟨b, off + j, none⟩ = some (.int .i64 (zs.getD j 0))) (hf : ∀ j, j < n → w.frozen? ⟨b, off + j, none⟩ = false) :
    Calls Try.prog 37 #[.slice (some ⟨b, off, none⟩) n c, .int .i64 i, .int .i64 j] w fun e w' => e = .returned (.slice (some ⟨b, off, none⟩) (n - (j - i)) c) ∧ ∃ q, w' = (w.drewN q).setCells b off (((zs.take n).take i ++ (zs.take n).drop j ++ List.replicate (j - i) 0).map (Value.int .i64)) := Any.slices_Delete_int_cells Try.laysNm223 b off n c i j zs w hz hcap hm hij hj hc hf
open Go.RowKit Go.Lib in
/-- slices.Delete at []int of no element ('Delete(s, 0, 0)'): s comes back; the world is as it was. (LAID: no walk: one application.) -/
theorem Try.slices_Delete_int_empty (a : Option Addr) (c : Nat) (w : World) :
    Calls Try.prog 37 #[.slice a 0 c, .int .i64 0, .int .i64 0] w fun e w' => e = .returned (.slice a 0 c) ∧ w' = w := Any.slices_Delete_int_empty Try.laysNm223 a c w
def Try.laysNm221_ren : Go.Shelf.Ren := ⟨fun | 21 => 33 | 27 => 38 | 28 => 39 | 35 => 41 | 39 => 42 | n => n, fun | 22 => 29 | 3 => 3 | 4 => 4 | 0 => 0 | n => n, fun | n => n⟩
theorem Try.laysNm221 : Go.Proofs.Lays2.n21 Try.prog Try.laysNm221_ren := {
  mixed := by kernel_rfl
  f21 := Try.func33.trans (congrArg some (by kernel_rfl))
  f27 := Try.func38.trans (congrArg some (by kernel_rfl))
  f28 := Try.func39.trans (congrArg some (by kernel_rfl))
  f35 := Try.func41.trans (congrArg some (by kernel_rfl))
  f39 := Try.func42.trans (congrArg some (by kernel_rfl))
  t0 := Try.underlying0
  a0 := Try.isAgg0
  z0 := Try.sizeOf0
  v0 := Try.zeroValue0
  t3 := Try.underlying3
  a3 := Try.isAgg3
  z3 := Try.sizeOf3
  v3 := Try.zeroValue3
  t4 := Try.underlying4
  a4 := Try.isAgg4
  z4 := Try.sizeOf4
  v4 := Try.zeroValue4
  t22 := Try.underlying29
  a22 := Try.isAgg29
  z22 := Try.sizeOf29
  v22 := Try.zeroValue29
  i3 := by kernel_rfl }
end Go.Proofs
