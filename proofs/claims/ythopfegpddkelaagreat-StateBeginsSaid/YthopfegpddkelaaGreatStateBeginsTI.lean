/- A part of the proof: lemmas and walks that the last text of the claim joins; no condition. -/
import Derived.Test.YthopfegpddkelaaGreatStateBeginsTH
import Derived.Shelf.Spec.SlicesGrow
import Derived.Laws.AppendOwn
import Derived.Test.YthopfegpddkelaaGreatStateBeginsTF
import Derived.Shelf.Vars
import Derived.Test.YthopfegpddkelaaGreatRows
set_option linter.unusedVariables false
set_option linter.unusedSimpArgs false
set_option maxHeartbeats 8000000
namespace Go.Vc
open Go.Proofs
set_option maxRecDepth 10000
set_option maxHeartbeats 4000000
noncomputable abbrev BN : Base := { BB with np := fun t => bif Nat.beq t 40 then some 6 else none }
instance toN_fnM {f : FuncId} {args : List SV} {Φ : Phi} {pre : Prop} {res : SV} {Φ' : Phi} [h : FnM BB f args Φ pre res Φ'] : FnM BN f args Φ pre res Φ' := ⟨h.call, h.ok⟩
def pPre (t out : List NodeD) (s : List Bool) (k : Int) : Prop := smallT t = true ∧ s.length = t.length ∧ (0 ≤ k ∧ k < t.length) ∧ out.length + unseen (s.set k.toNat true) + 1 ≤ 5000
theorem cnd14 {q : List Bool} {n : Nat} (hq : q.length = n) (k : Int) : (decide (k ≥ 0) && decide (k < (n : Int)) && !q.getD k.toNat false) = okK q k := by
  unfold okK
  by_cases h1 : k < 0
  · rw [decide_eq_false (by omega : ¬ k ≥ 0)]; rfl
  · rw [decide_eq_true (by omega : k ≥ 0)]
    by_cases h2 : k < (n : Int)
    · rw [decide_eq_true h2]
      have hl : k.toNat < q.length := by omega
      simp [List.getD, hl]
    · have : q.getD k.toNat true = true := by
        rw [List.getD_eq_getElem?_getD, List.getElem?_eq_none (by omega)]; rfl
      rw [decide_eq_false h2, this]; rfl
theorem addAt_kids (o : List NodeD) (p : Nat) (k : Int) (h : p < o.length) : ((addAt o p k).getD p nodeTy.dflt).kids = (o.getD p nodeTy.dflt).kids ++ [k] := by
 unfold addAt
 rw [List.getD_eq_getElem?_getD, List.getElem?_set, if_pos rfl, if_pos h]; rfl
theorem addAt_fin (o : List NodeD) (n : Nat) (k : Int) (h : n < o.length) :
  (o.set n ((o.getD n nodeTy.dflt).1, (o.getD n nodeTy.dflt).2.1, (o.getD n nodeTy.dflt).2.2.1, (o.getD n nodeTy.dflt).2.2.2.1, (o.getD n nodeTy.dflt).2.2.2.2.1, (o.getD n nodeTy.dflt).2.2.2.2.2.1, (o.getD n nodeTy.dflt).2.2.2.2.2.2 ++ [k])).set n
   ((o.set n ((o.getD n nodeTy.dflt).1, (o.getD n nodeTy.dflt).2.1, (o.getD n nodeTy.dflt).2.2.1, (o.getD n nodeTy.dflt).2.2.2.1, (o.getD n nodeTy.dflt).2.2.2.2.1, (o.getD n nodeTy.dflt).2.2.2.2.2.1, (o.getD n nodeTy.dflt).2.2.2.2.2.2 ++ [k])).getD n nodeTy.dflt) = addAt o n k := by
 rw [List.set_set]
 unfold addAt
 congr 1
 rw [List.getD_eq_getElem?_getD, List.getElem?_set, if_pos rfl, if_pos h]
 rfl
theorem hPutN (N : Nat) : ∀ (t out : List NodeD) (s : List Bool) (k up : Int),
  FnM BN 111 [.agg [.rd nodeTy t], .int .i64 k, .int .i64 up, .agg [.own 0], .own 1] [(0, .nst nodeTy 6 out none), (1, .ow .bool s)]
   (pPre t out s k ∧ unseen (s.set k.toNat true) < N)
   (.agg [.own 0]) [(0, .nst nodeTy 6 (putO t (kidsOf t) out s k.toNat up) none), (1, .ow .bool (putS (kidsOf t) s k.toNat))] := by
 induction N with
 | zero => intro t out s k up; exact ⟨Tryz.call111, fun h => absurd h.2 (Nat.not_lt_zero _)⟩
 | succ N ih =>
  intro t out s k up
  refine FnM.intro (N := 99) [0, 1, 2, 3, 4, 5, 8, 10, 11, 12, 13, 14, 48, 75] [(12, [0, 7, 0, 0, 7, 0, 4, 4, 4, 0, 7, 4, 4, 4, 4, 4, 4]), (3000012, [454,519,779,840,844,909,974,1039])] 2 Tryz.call111 Tryz.func111 rfl rfl (by kernel_rfl) (fun hpre => ?_)
  obtain ⟨⟨hsm, hsl, hk, hlen⟩, hN⟩ := hpre
  repeat' ((conv => whnf);first|(with_reducible first|rfl|exact absTF|exact absFT)|exact True.intro|intro _|refine And.intro ?_ ?_|refine Fin.mk ?_|refine W1 rfl ?_ ?_|refine W2 rfl ?_ ?_|refine W3 rfl ?_ ?_|refine W4 ?_ ?_|refine W5 rfl ?_ ?_|refine W6 ?_ ?_|refine AppN.mk ?_|refine X1 (W1 rfl ?_ ?_)|refine X1 (W2 rfl ?_ ?_)|refine X2 (W7 rfl ?_ ?_)|refine X3 (W7 rfl ?_ ?_)|refine X4 (W7 rfl ?_ ?_)|refine X5 (W7 rfl ?_ ?_))
  all_goals (try (conv => whnf))
  all_goals (try first|exact Ob.mk (u8_bnd _)|(refine Ob.mk ?_;first|exact True.intro|assumption|omega|(try simp only [ZA,ZB,ZC,ZD,ZE,ZF,ZG,ZH,ZI,ZJ,ZK,ZL,ZM,ZN,ZO,Int.toNat_natCast,UInt8.ofNat_toNat,cast_eq] at *;omega)))
  all_goals (try first|(show (_:Int) = _;omega)|(show tupSV _ = _;with_unfolding_all rfl)|((first|show (_:Nat) ≤ _|show (_:Nat) ≤ _ ∧ (_:Nat) ≤ _|show (_:Int) ≤ _ ∧ (_:Int) ≤ _ ∧ (_:Int) ≤ _ ∧ (_:Int) ≤ _);(simp <;> omega)))
  all_goals (try simp only [bytes40, bytesB40, bytes82, bytesB82, List.length_singleton] at *)
  ·have h64 := (small_at hsm k (isT_iff.2 hk)).1
   simp only [cast_eq, List.length_nil, Nat.zero_add]
   change ((nd t k).2.2.2.1.length * 32 ≤ _ ∧ (nd t k).2.2.2.1.length ≤ _)
   omega
  refine LoopStop.mk (α := List NodeD × List Bool × Nat) (fun a => [(13, .int .i64 a.2.2)]) (fun a => [(0, .nst nodeTy 6 a.1 none), (1, .ow .bool a.2.1)]) 20
   (fun a => pS t (kidsOf t) a.1 a.2.1 out.length k.toNat a.2.2 = putO t (kidsOf t) out s k.toNat up ∧ sS (kidsOf t) a.2.1 k.toNat a.2.2 = putS (kidsOf t) s k.toNat ∧ a.2.1.length = t.length ∧ a.1.length + unseen a.2.1 ≤ 5000 ∧
    out.length < a.1.length ∧ (a.1.getD out.length nodeTy.dflt).kids.length ≤ a.2.2 ∧ a.2.2 ≤ (kidsOf t k.toNat).length ∧ unseen a.2.1 ≤ N)
   (fun a => (kidsOf t k.toNat).length - a.2.2) (out ++ [mkN (t.getD k.toNat nodeTy.dflt) up], s.set k.toNat true, 0) ⟨rfl, rfl, by simpa using hsl, by simp only [List.length_append, List.length_singleton]; omega, by simp, by simp [mkN, NodeD.kids], Nat.zero_le _, by show unseen (s.set k.toNat true) ≤ N; omega⟩ ?_ (fun a ha => ?_)
  ·repeat' ((conv => whnf);first|(with_reducible first|rfl|exact absTF|exact absFT)|exact True.intro|intro _|refine And.intro ?_ ?_|refine Fin.mk ?_|refine W1 rfl ?_ ?_|refine W2 rfl ?_ ?_|refine W3 rfl ?_ ?_|refine W4 ?_ ?_|refine W5 rfl ?_ ?_|refine W6 ?_ ?_|refine AppN.mk ?_|refine X1 (W1 rfl ?_ ?_)|refine X1 (W2 rfl ?_ ?_)|refine X2 (W7 rfl ?_ ?_)|refine X3 (W7 rfl ?_ ?_)|refine X4 (W7 rfl ?_ ?_)|refine X5 (W7 rfl ?_ ?_))
   all_goals (try (conv => whnf))
   all_goals (try first|exact Ob.mk (u8_bnd _)|(refine Ob.mk ?_;first|exact True.intro|assumption|omega|(try simp only [ZA,ZB,ZC,ZD,ZE,ZF,ZG,ZH,ZI,ZJ,ZK,ZL,ZM,ZN,ZO,Int.toNat_natCast,UInt8.ofNat_toNat,cast_eq] at *;omega)))
   all_goals (try first|(show (_:Int) = _;omega)|(show tupSV _ = _;with_unfolding_all rfl)|((first|show (_:Nat) ≤ _|show (_:Nat) ≤ _ ∧ (_:Nat) ≤ _|show (_:Int) ≤ _ ∧ (_:Int) ≤ _ ∧ (_:Int) ≤ _ ∧ (_:Int) ≤ _);(simp <;> omega)))
   all_goals (first | rfl | skip)
  ·obtain ⟨o, q, j⟩ := a
   dsimp only at ha ⊢
   obtain ⟨h1, h2, h3, h4, h5, h6, h7, h8⟩ := ha
   repeat' ((conv => whnf);first|(with_reducible first|rfl|exact absTF|exact absFT)|exact True.intro|intro _|refine And.intro ?_ ?_|refine Fin.mk ?_|refine W1 rfl ?_ ?_|refine W2 rfl ?_ ?_|refine W3 rfl ?_ ?_|refine W4 ?_ ?_|refine W5 rfl ?_ ?_|refine W6 ?_ ?_|refine AppN.mk ?_|refine X1 (W1 rfl ?_ ?_)|refine X1 (W2 rfl ?_ ?_)|refine X2 (W7 rfl ?_ ?_)|refine X3 (W7 rfl ?_ ?_)|refine X4 (W7 rfl ?_ ?_)|refine X5 (W7 rfl ?_ ?_))
   all_goals (try (conv => whnf))
   all_goals (try first|exact Ob.mk (u8_bnd _)|(refine Ob.mk ?_;first|exact True.intro|assumption|omega|(try simp only [ZA,ZB,ZC,ZD,ZE,ZF,ZG,ZH,ZI,ZJ,ZK,ZL,ZM,ZN,ZO,Int.toNat_natCast,UInt8.ofNat_toNat,cast_eq] at *;omega)))
   all_goals (try first|(show (_:Int) = _;omega)|(show tupSV _ = _;with_unfolding_all rfl)|((first|show (_:Nat) ≤ _|show (_:Nat) ≤ _ ∧ (_:Nat) ≤ _|show (_:Int) ≤ _ ∧ (_:Int) ≤ _ ∧ (_:Int) ≤ _ ∧ (_:Int) ≤ _);(simp <;> omega)))
   all_goals (try simp only [Int.toNat_natCast] at *)
   ·rename_i c1 c2 c3
    have hj : j < (kidsOf t k.toNat).length := by have h := of_decide_eq_true c2; exact Int.ofNat_lt.mp h
    have hc : okK q ((kidsOf t k.toNat).getD j 0) = true := by rw [← cnd14 h3]; exact c3
    refine ZStop.mk [] [(0, .nst nodeTy 6 (addAt o out.length o.length) none)] 60 ?_
    have o1 : Ob (0 ≤ (out.length : Int) ∧ (out.length : Int) < o.length) := Ob.mk ⟨by omega, by omega⟩
    have o2 : Ob ((out.length : Int).toNat < o.length) := Ob.mk (by omega)
    have hkl : (kidsOf t k.toNat).length ≤ 1000 := (small_at hsm k (isT_iff.2 hk)).2
    have o3 : Ob (out.length < o.length ∧ ((o.getD out.length nodeTy.dflt).kids.length + 1) * 8 ≤ 70368744177664 ∧ (o.getD out.length nodeTy.dflt).kids.length + 1 ≤ 70368744177664) := Ob.mk ⟨h5, by omega, by omega⟩
    have hok := okK_spec hc
    have hu := unseen_set hok.2.2
    repeat' ((conv => whnf);first|(with_reducible first|rfl|exact absTF|exact absFT)|exact True.intro|intro _|refine And.intro ?_ ?_|refine Fin.mk ?_|refine W1 rfl ?_ ?_|refine W2 rfl ?_ ?_|refine W3 rfl ?_ ?_|refine W4 ?_ ?_|refine W5 rfl ?_ ?_|refine W6 ?_ ?_|refine AppN.mk ?_|refine X1 (W1 rfl ?_ ?_)|refine X1 (W2 rfl ?_ ?_)|refine X2 (W7 rfl ?_ ?_)|refine X3 (W7 rfl ?_ ?_)|refine X4 (W7 rfl ?_ ?_)|refine X5 (W7 rfl ?_ ?_))
    all_goals (try (conv => whnf))
    all_goals (first | exact o1 | exact o2 | exact o3 | exact Ob.mk rfl | (refine Ob.mk ?_; rw [List.length_set]; first | exact o1.h | exact o2.h) | skip)
    any_goals (refine Rnd.mk (p := matK _ _ _ _ _) ?_)
    repeat' ((conv => whnf);first|(with_reducible first|rfl|exact absTF|exact absFT)|exact True.intro|intro _|refine And.intro ?_ ?_|refine Fin.mk ?_|refine W1 rfl ?_ ?_|refine W2 rfl ?_ ?_|refine W3 rfl ?_ ?_|refine W4 ?_ ?_|refine W5 rfl ?_ ?_|refine W6 ?_ ?_|refine AppN.mk ?_|refine X1 (W1 rfl ?_ ?_)|refine X1 (W2 rfl ?_ ?_)|refine X2 (W7 rfl ?_ ?_)|refine X3 (W7 rfl ?_ ?_)|refine X4 (W7 rfl ?_ ?_)|refine X5 (W7 rfl ?_ ?_))
    all_goals (try (conv => whnf))
    all_goals (try exact congrArg (fun l => Chunk.nst nodeTy 6 l none) (addAt_fin o out.length o.length h5))
    ·refine Ob.mk ⟨⟨hsm, h3, ⟨hok.1, by have h := hok.2.1; rw [h3] at h; exact (by omega : (kidsOf t k.toNat).getD j 0 < (t.length : Int))⟩, by rw [addAt_len]; change o.length + unseen (q.set ((kidsOf t k.toNat).getD j 0).toNat true) + 1 ≤ _; omega⟩, by change unseen (q.set ((kidsOf t k.toNat).getD j 0).toNat true) < N; omega⟩
    ·exact Ob.mk ⟨by omega, by omega⟩
    obtain ⟨e1, e2⟩ := pS_ok (t := t) (out := o) (p := out.length) hj hc
    rw [e1] at h1; rw [e2] at h2
    obtain ⟨l1, l2, l3, l4⟩ := putO_len (t := t) (K := kidsOf t) (addAt o out.length o.length) q ((kidsOf t k.toNat).getD j 0).toNat out.length
    rw [addAt_len] at l1 l2 l3
    refine Rnd.mk ⟨(putO t (kidsOf t) (addAt o out.length o.length) q ((kidsOf t k.toNat).getD j 0).toNat out.length, putS (kidsOf t) q ((kidsOf t k.toNat).getD j 0).toNat, j + 1), ⟨h1, h2, l4.trans h3, by dsimp only; omega, by dsimp only; omega, ?_, by show j + 1 ≤ _; omega, by dsimp only; omega⟩, by show _ - (j + 1) < _; omega, ?_⟩
    ·dsimp only
     rw [l3 _ h5, addAt_kids _ _ _ h5, List.length_append, List.length_singleton]
     exact Nat.succ_le_succ h6
    ·repeat' ((conv => whnf);first|(with_reducible first|rfl|exact absTF|exact absFT)|exact True.intro|intro _|refine And.intro ?_ ?_|refine Fin.mk ?_|refine W1 rfl ?_ ?_|refine W2 rfl ?_ ?_|refine W3 rfl ?_ ?_|refine W4 ?_ ?_|refine W5 rfl ?_ ?_|refine W6 ?_ ?_|refine AppN.mk ?_|refine X1 (W1 rfl ?_ ?_)|refine X1 (W2 rfl ?_ ?_)|refine X2 (W7 rfl ?_ ?_)|refine X3 (W7 rfl ?_ ?_)|refine X4 (W7 rfl ?_ ?_)|refine X5 (W7 rfl ?_ ?_))
     all_goals (try (conv => whnf))
     all_goals (try first|exact Ob.mk (u8_bnd _)|(refine Ob.mk ?_;first|exact True.intro|assumption|omega|(try simp only [ZA,ZB,ZC,ZD,ZE,ZF,ZG,ZH,ZI,ZJ,ZK,ZL,ZM,ZN,ZO,Int.toNat_natCast,UInt8.ofNat_toNat,cast_eq] at *;omega)))
     all_goals (try first|(show (_:Int) = _;omega)|(show tupSV _ = _;with_unfolding_all rfl)|((first|show (_:Nat) ≤ _|show (_:Nat) ≤ _ ∧ (_:Nat) ≤ _|show (_:Int) ≤ _ ∧ (_:Int) ≤ _ ∧ (_:Int) ≤ _ ∧ (_:Int) ≤ _);(simp <;> omega)))
     all_goals (try rfl)
   ·rename_i c1 c2 c3
    have hj : j < (kidsOf t k.toNat).length := by have h := of_decide_eq_true c2; exact Int.ofNat_lt.mp h
    have hc : okK q ((kidsOf t k.toNat).getD j 0) = false := by rw [← cnd14 h3]; exact c3
    obtain ⟨e1, e2⟩ := pS_bad (t := t) (out := o) (p := out.length) hj hc
    rw [e1] at h1; rw [e2] at h2
    refine Rnd.mk ⟨(o, q, j + 1), ⟨h1, h2, h3, h4, h5, Nat.le_succ_of_le h6, by show j + 1 ≤ _; omega, h8⟩, by show _ - (j + 1) < _; omega, ?_⟩
    repeat' ((conv => whnf);first|(with_reducible first|rfl|exact absTF|exact absFT)|exact True.intro|intro _|refine And.intro ?_ ?_|refine Fin.mk ?_|refine W1 rfl ?_ ?_|refine W2 rfl ?_ ?_|refine W3 rfl ?_ ?_|refine W4 ?_ ?_|refine W5 rfl ?_ ?_|refine W6 ?_ ?_|refine AppN.mk ?_|refine X1 (W1 rfl ?_ ?_)|refine X1 (W2 rfl ?_ ?_)|refine X2 (W7 rfl ?_ ?_)|refine X3 (W7 rfl ?_ ?_)|refine X4 (W7 rfl ?_ ?_)|refine X5 (W7 rfl ?_ ?_))
    all_goals (try (conv => whnf))
    all_goals (try first|exact Ob.mk (u8_bnd _)|(refine Ob.mk ?_;first|exact True.intro|assumption|omega|(try simp only [ZA,ZB,ZC,ZD,ZE,ZF,ZG,ZH,ZI,ZJ,ZK,ZL,ZM,ZN,ZO,Int.toNat_natCast,UInt8.ofNat_toNat,cast_eq] at *;omega)))
    all_goals (try first|(show (_:Int) = _;omega)|(show tupSV _ = _;with_unfolding_all rfl)|((first|show (_:Nat) ≤ _|show (_:Nat) ≤ _ ∧ (_:Nat) ≤ _|show (_:Int) ≤ _ ∧ (_:Int) ≤ _ ∧ (_:Int) ≤ _ ∧ (_:Int) ≤ _);(simp <;> omega)))
    all_goals (try rfl)
   all_goals (rename_i c1 c2)
   all_goals (have hj : ¬ j < (kidsOf t k.toNat).length := by have h := of_decide_eq_false c2; exact fun q => h (Int.ofNat_lt.mpr q))
   all_goals (obtain ⟨e1, e2⟩ := pS_end (t := t) (out := o) (p := out.length) (s := q) hj; rw [e1] at h1; rw [e2] at h2)
   ·rw [h1]
   ·rw [h2]
instance hPut14 (t out : List NodeD) (s : List Bool) (k up : Int) :
  FnM BN 111 [.agg [.rd nodeTy t], .int .i64 k, .int .i64 up, .agg [.own 0], .own 1] [(0, .nst nodeTy 6 out none), (1, .ow .bool s)] (pPre t out s k)
   (.agg [.own 0]) [(0, .nst nodeTy 6 (putO t (kidsOf t) out s k.toNat up) none), (1, .ow .bool (putS (kidsOf t) s k.toNat))] :=
 have h := hPutN (unseen (s.set k.toNat true) + 1) t out s k up
 ⟨h.call, fun hp => h.ok ⟨hp, Nat.lt_succ_self _⟩⟩
end Go.Vc

namespace Go.Vc
open Go.Proofs
set_option maxRecDepth 10000
set_option maxHeartbeats 4000000
instance hPut0 (t : List NodeD) (s : List Bool) (k up : Int) :
  FnM BN 111 [.agg [.rd nodeTy t], .int .i64 k, .int .i64 up, .agg [.nils], .own 0] [(0, .own .bool s)] (pPre t [] s k)
   (.agg [.own 1]) [(1, .nst nodeTy 6 (putO t (kidsOf t) [] s k.toNat up) none)] := by
  refine FnM.intro (N := 99) [0, 1, 2, 3, 4, 5, 8, 10, 11, 12, 13, 14, 48, 75] [(12, [0, 7, 0, 0, 7, 0, 4, 4, 4, 0, 7, 4, 4, 4, 4, 4, 4]), (3000012, [454,519,779,840,844,909,974,1039]), (2000000, [0])] 1 Tryz.call111 Tryz.func111 rfl rfl (by kernel_rfl) (fun hpre => ?_)
  obtain ⟨hsm, hsl, hk, hlen⟩ := hpre
  simp only [List.length_nil, Nat.zero_add] at hlen
  repeat' ((conv => whnf);first|(with_reducible first|rfl|exact absTF|exact absFT)|exact True.intro|intro _|refine And.intro ?_ ?_|refine Fin.mk ?_|refine W1 rfl ?_ ?_|refine W2 rfl ?_ ?_|refine W3 rfl ?_ ?_|refine W4 ?_ ?_|refine W5 rfl ?_ ?_|refine W6 ?_ ?_|refine AppN.ns ?_|refine X1 (W1 rfl ?_ ?_)|refine X1 (W2 rfl ?_ ?_)|refine X2 (W7 rfl ?_ ?_)|refine X3 (W7 rfl ?_ ?_)|refine X4 (W7 rfl ?_ ?_)|refine X5 (W7 rfl ?_ ?_))
  all_goals (try (conv => whnf))
  all_goals (try first|exact Ob.mk (u8_bnd _)|(refine Ob.mk ?_;first|exact True.intro|assumption|omega|(try simp only [ZA,ZB,ZC,ZD,ZE,ZF,ZG,ZH,ZI,ZJ,ZK,ZL,ZM,ZN,ZO,Int.toNat_natCast,UInt8.ofNat_toNat,cast_eq] at *;omega)))
  all_goals (try first|(show (_:Int) = _;omega)|(show tupSV _ = _;with_unfolding_all rfl)|((first|show (_:Nat) ≤ _|show (_:Nat) ≤ _ ∧ (_:Nat) ≤ _|show (_:Int) ≤ _ ∧ (_:Int) ≤ _ ∧ (_:Int) ≤ _ ∧ (_:Int) ≤ _);(simp <;> omega)))
  all_goals (try simp only [bytes40, bytesB40, bytes82, bytesB82, List.length_singleton] at *)
  ·have h64 := (small_at hsm k (isT_iff.2 hk)).1
   simp only [cast_eq, List.length_nil, Nat.zero_add]
   change ((nd t k).2.2.2.1.length * 32 ≤ _ ∧ (nd t k).2.2.2.1.length ≤ _)
   omega
  refine LoopStop.mk (α := List NodeD × List Bool × Nat) (fun a => [(13, .int .i64 a.2.2)]) (fun a => [(6, .nst nodeTy 6 a.1 none), (0, .ow .bool a.2.1)]) 20
   (fun a => pS t (kidsOf t) a.1 a.2.1 0 k.toNat a.2.2 = putO t (kidsOf t) [] s k.toNat up ∧ sS (kidsOf t) a.2.1 k.toNat a.2.2 = putS (kidsOf t) s k.toNat ∧ a.2.1.length = t.length ∧ a.1.length + unseen a.2.1 ≤ 5000 ∧
    0 < a.1.length ∧ (a.1.getD 0 nodeTy.dflt).kids.length ≤ a.2.2 ∧ a.2.2 ≤ (kidsOf t k.toNat).length)
   (fun a => (kidsOf t k.toNat).length - a.2.2) ([] ++ [mkN (t.getD k.toNat nodeTy.dflt) up], s.set k.toNat true, 0) ⟨rfl, rfl, by simpa using hsl, by simp only [List.length_append, List.length_singleton, List.length_nil]; omega, by simp, by simp [mkN, NodeD.kids], Nat.zero_le _⟩ ?_ (fun a ha => ?_)
  ·repeat' ((conv => whnf);first|(with_reducible first|rfl|exact absTF|exact absFT)|exact True.intro|intro _|refine And.intro ?_ ?_|refine Fin.mk ?_|refine W1 rfl ?_ ?_|refine W2 rfl ?_ ?_|refine W3 rfl ?_ ?_|refine W4 ?_ ?_|refine W5 rfl ?_ ?_|refine W6 ?_ ?_|refine AppN.mk ?_|refine X1 (W1 rfl ?_ ?_)|refine X1 (W2 rfl ?_ ?_)|refine X2 (W7 rfl ?_ ?_)|refine X3 (W7 rfl ?_ ?_)|refine X4 (W7 rfl ?_ ?_)|refine X5 (W7 rfl ?_ ?_))
   all_goals (try (conv => whnf))
   all_goals (try first|exact Ob.mk (u8_bnd _)|(refine Ob.mk ?_;first|exact True.intro|assumption|omega|(try simp only [ZA,ZB,ZC,ZD,ZE,ZF,ZG,ZH,ZI,ZJ,ZK,ZL,ZM,ZN,ZO,Int.toNat_natCast,UInt8.ofNat_toNat,cast_eq] at *;omega)))
   all_goals (try first|(show (_:Int) = _;omega)|(show tupSV _ = _;with_unfolding_all rfl)|((first|show (_:Nat) ≤ _|show (_:Nat) ≤ _ ∧ (_:Nat) ≤ _|show (_:Int) ≤ _ ∧ (_:Int) ≤ _ ∧ (_:Int) ≤ _ ∧ (_:Int) ≤ _);(simp <;> omega)))
   all_goals (first | rfl | skip)
  ·obtain ⟨o, q, j⟩ := a
   dsimp only at ha ⊢
   obtain ⟨h1, h2, h3, h4, h5, h6, h7⟩ := ha
   repeat' ((conv => whnf);first|(with_reducible first|rfl|exact absTF|exact absFT)|exact True.intro|intro _|refine And.intro ?_ ?_|refine Fin.mk ?_|refine W1 rfl ?_ ?_|refine W2 rfl ?_ ?_|refine W3 rfl ?_ ?_|refine W4 ?_ ?_|refine W5 rfl ?_ ?_|refine W6 ?_ ?_|refine AppN.mk ?_|refine X1 (W1 rfl ?_ ?_)|refine X1 (W2 rfl ?_ ?_)|refine X2 (W7 rfl ?_ ?_)|refine X3 (W7 rfl ?_ ?_)|refine X4 (W7 rfl ?_ ?_)|refine X5 (W7 rfl ?_ ?_))
   all_goals (try (conv => whnf))
   all_goals (try first|exact Ob.mk (u8_bnd _)|(refine Ob.mk ?_;first|exact True.intro|assumption|omega|(try simp only [ZA,ZB,ZC,ZD,ZE,ZF,ZG,ZH,ZI,ZJ,ZK,ZL,ZM,ZN,ZO,Int.toNat_natCast,UInt8.ofNat_toNat,cast_eq] at *;omega)))
   all_goals (try first|(show (_:Int) = _;omega)|(show tupSV _ = _;with_unfolding_all rfl)|((first|show (_:Nat) ≤ _|show (_:Nat) ≤ _ ∧ (_:Nat) ≤ _|show (_:Int) ≤ _ ∧ (_:Int) ≤ _ ∧ (_:Int) ≤ _ ∧ (_:Int) ≤ _);(simp <;> omega)))
   all_goals (try simp only [Int.toNat_natCast] at *)
   ·rename_i c1 c2 c3
    have hj : j < (kidsOf t k.toNat).length := by have h := of_decide_eq_true c2; exact Int.ofNat_lt.mp h
    have hc : okK q ((kidsOf t k.toNat).getD j 0) = true := by rw [← cnd14 h3]; exact c3
    refine ZStop.mk [] [(6, .nst nodeTy 6 (addAt o 0 o.length) none)] 60 ?_
    have o1 : Ob (0 ≤ (0 : Int) ∧ (0 : Int) < o.length) := Ob.mk ⟨by omega, by omega⟩
    have o2 : Ob ((0 : Int).toNat < o.length) := Ob.mk (by omega)
    have hkl : (kidsOf t k.toNat).length ≤ 1000 := (small_at hsm k (isT_iff.2 hk)).2
    have o3 : Ob (0 < o.length ∧ ((o.getD 0 nodeTy.dflt).kids.length + 1) * 8 ≤ 70368744177664 ∧ (o.getD 0 nodeTy.dflt).kids.length + 1 ≤ 70368744177664) := Ob.mk ⟨h5, by omega, by omega⟩
    have hok := okK_spec hc
    have hu := unseen_set hok.2.2
    repeat' ((conv => whnf);first|(with_reducible first|rfl|exact absTF|exact absFT)|exact True.intro|intro _|refine And.intro ?_ ?_|refine Fin.mk ?_|refine W1 rfl ?_ ?_|refine W2 rfl ?_ ?_|refine W3 rfl ?_ ?_|refine W4 ?_ ?_|refine W5 rfl ?_ ?_|refine W6 ?_ ?_|refine AppN.mk ?_|refine X1 (W1 rfl ?_ ?_)|refine X1 (W2 rfl ?_ ?_)|refine X2 (W7 rfl ?_ ?_)|refine X3 (W7 rfl ?_ ?_)|refine X4 (W7 rfl ?_ ?_)|refine X5 (W7 rfl ?_ ?_))
    all_goals (try (conv => whnf))
    all_goals (first | exact o1 | exact o2 | exact o3 | exact Ob.mk rfl | (refine Ob.mk ?_; rw [List.length_set]; first | exact o1.h | exact o2.h) | skip)
    any_goals (refine Rnd.mk (p := matK _ _ _ _ _) ?_)
    repeat' ((conv => whnf);first|(with_reducible first|rfl|exact absTF|exact absFT)|exact True.intro|intro _|refine And.intro ?_ ?_|refine Fin.mk ?_|refine W1 rfl ?_ ?_|refine W2 rfl ?_ ?_|refine W3 rfl ?_ ?_|refine W4 ?_ ?_|refine W5 rfl ?_ ?_|refine W6 ?_ ?_|refine AppN.mk ?_|refine X1 (W1 rfl ?_ ?_)|refine X1 (W2 rfl ?_ ?_)|refine X2 (W7 rfl ?_ ?_)|refine X3 (W7 rfl ?_ ?_)|refine X4 (W7 rfl ?_ ?_)|refine X5 (W7 rfl ?_ ?_))
    all_goals (try (conv => whnf))
    all_goals (try exact congrArg (fun l => Chunk.nst nodeTy 6 l none) (addAt_fin o 0 o.length h5))
    ·refine Ob.mk ⟨hsm, h3, ⟨hok.1, by have h := hok.2.1; rw [h3] at h; exact (by omega : (kidsOf t k.toNat).getD j 0 < (t.length : Int))⟩, by rw [addAt_len]; change o.length + unseen (q.set ((kidsOf t k.toNat).getD j 0).toNat true) + 1 ≤ _; omega⟩
    ·exact Ob.mk ⟨by omega, by omega⟩
    obtain ⟨e1, e2⟩ := pS_ok (t := t) (out := o) (p := 0) hj hc
    rw [e1] at h1; rw [e2] at h2
    obtain ⟨l1, l2, l3, l4⟩ := putO_len (t := t) (K := kidsOf t) (addAt o 0 o.length) q ((kidsOf t k.toNat).getD j 0).toNat 0
    rw [addAt_len] at l1 l2 l3
    refine Rnd.mk ⟨(putO t (kidsOf t) (addAt o 0 o.length) q ((kidsOf t k.toNat).getD j 0).toNat 0, putS (kidsOf t) q ((kidsOf t k.toNat).getD j 0).toNat, j + 1), ⟨h1, h2, l4.trans h3, by dsimp only; omega, by dsimp only; omega, ?_, by show j + 1 ≤ _; omega⟩, by show _ - (j + 1) < _; omega, ?_⟩
    ·dsimp only
     rw [l3 _ h5, addAt_kids _ _ _ h5, List.length_append, List.length_singleton]
     exact Nat.succ_le_succ h6
    ·repeat' ((conv => whnf);first|(with_reducible first|rfl|exact absTF|exact absFT)|exact True.intro|intro _|refine And.intro ?_ ?_|refine Fin.mk ?_|refine W1 rfl ?_ ?_|refine W2 rfl ?_ ?_|refine W3 rfl ?_ ?_|refine W4 ?_ ?_|refine W5 rfl ?_ ?_|refine W6 ?_ ?_|refine AppN.mk ?_|refine X1 (W1 rfl ?_ ?_)|refine X1 (W2 rfl ?_ ?_)|refine X2 (W7 rfl ?_ ?_)|refine X3 (W7 rfl ?_ ?_)|refine X4 (W7 rfl ?_ ?_)|refine X5 (W7 rfl ?_ ?_))
     all_goals (try (conv => whnf))
     all_goals (try first|exact Ob.mk (u8_bnd _)|(refine Ob.mk ?_;first|exact True.intro|assumption|omega|(try simp only [ZA,ZB,ZC,ZD,ZE,ZF,ZG,ZH,ZI,ZJ,ZK,ZL,ZM,ZN,ZO,Int.toNat_natCast,UInt8.ofNat_toNat,cast_eq] at *;omega)))
     all_goals (try first|(show (_:Int) = _;omega)|(show tupSV _ = _;with_unfolding_all rfl)|((first|show (_:Nat) ≤ _|show (_:Nat) ≤ _ ∧ (_:Nat) ≤ _|show (_:Int) ≤ _ ∧ (_:Int) ≤ _ ∧ (_:Int) ≤ _ ∧ (_:Int) ≤ _);(simp <;> omega)))
     all_goals (try rfl)
   ·rename_i c1 c2 c3
    have hj : j < (kidsOf t k.toNat).length := by have h := of_decide_eq_true c2; exact Int.ofNat_lt.mp h
    have hc : okK q ((kidsOf t k.toNat).getD j 0) = false := by rw [← cnd14 h3]; exact c3
    obtain ⟨e1, e2⟩ := pS_bad (t := t) (out := o) (p := 0) hj hc
    rw [e1] at h1; rw [e2] at h2
    refine Rnd.mk ⟨(o, q, j + 1), ⟨h1, h2, h3, h4, h5, Nat.le_succ_of_le h6, by show j + 1 ≤ _; omega⟩, by show _ - (j + 1) < _; omega, ?_⟩
    repeat' ((conv => whnf);first|(with_reducible first|rfl|exact absTF|exact absFT)|exact True.intro|intro _|refine And.intro ?_ ?_|refine Fin.mk ?_|refine W1 rfl ?_ ?_|refine W2 rfl ?_ ?_|refine W3 rfl ?_ ?_|refine W4 ?_ ?_|refine W5 rfl ?_ ?_|refine W6 ?_ ?_|refine AppN.mk ?_|refine X1 (W1 rfl ?_ ?_)|refine X1 (W2 rfl ?_ ?_)|refine X2 (W7 rfl ?_ ?_)|refine X3 (W7 rfl ?_ ?_)|refine X4 (W7 rfl ?_ ?_)|refine X5 (W7 rfl ?_ ?_))
    all_goals (try (conv => whnf))
    all_goals (try first|exact Ob.mk (u8_bnd _)|(refine Ob.mk ?_;first|exact True.intro|assumption|omega|(try simp only [ZA,ZB,ZC,ZD,ZE,ZF,ZG,ZH,ZI,ZJ,ZK,ZL,ZM,ZN,ZO,Int.toNat_natCast,UInt8.ofNat_toNat,cast_eq] at *;omega)))
    all_goals (try first|(show (_:Int) = _;omega)|(show tupSV _ = _;with_unfolding_all rfl)|((first|show (_:Nat) ≤ _|show (_:Nat) ≤ _ ∧ (_:Nat) ≤ _|show (_:Int) ≤ _ ∧ (_:Int) ≤ _ ∧ (_:Int) ≤ _ ∧ (_:Int) ≤ _);(simp <;> omega)))
    all_goals (try rfl)
   all_goals (rename_i c1 c2)
   all_goals (have hj : ¬ j < (kidsOf t k.toNat).length := by have h := of_decide_eq_false c2; exact fun q => h (Int.ofNat_lt.mpr q))
   all_goals (obtain ⟨e1, e2⟩ := pS_end (t := t) (out := o) (p := 0) (s := q) hj; rw [e1] at h1; rw [e2] at h2)
   ·rw [h1]
end Go.Vc

namespace Go.Vc
open Go.Proofs
set_option maxRecDepth 10000
def okI (n : Nat) (i : Int) : Prop := 0 ≤ i ∧ i < n
structure Ti (n : Nat) (U : Int → Int) (K : Int → List Int) : Prop where
 pos : 0 < n
 root : U 0 = -1
 kid : ∀ i, okI n i → ∀ k ∈ K i, okI n k ∧ U k = i
 up : ∀ i, okI n i → U i = -1 ∨ (okI n (U i) ∧ (K (U i)).count i = 1)
 dep : ∃ d : Int → Nat, ∀ i, okI n i → U i ≠ -1 → d (U i) < d i
inductive Ds (U : Int → Int) (r : Int) : Int → Prop
 | here : Ds U r r
 | up {x : Int} : U x ≠ -1 → Ds U r (U x) → Ds U r x
theorem countP_lt {l : List Int} {p q : Int → Bool} (h : ∀ x ∈ l, p x = true → q x = true) (y : Int) (hy : y ∈ l) (hp : p y = false) (hq : q y = true) : l.countP p < l.countP q := by
 induction l with
 | nil => cases hy
 | cons a l ih =>
  have hle : l.countP p ≤ l.countP q := List.countP_mono_left fun x hx => h x (List.mem_cons_of_mem _ hx)
  rw [List.countP_cons, List.countP_cons]
  rcases List.mem_cons.1 hy with rfl | hy
  ·rw [hp, hq]; simp; omega
  ·have := ih (fun x hx => h x (List.mem_cons_of_mem _ hx)) hy
   have ha := h a List.mem_cons_self
   cases hpa : p a
   ·simp; omega
   ·rw [ha hpa]; simp; omega
theorem Ti.rank {n : Nat} {U : Int → Int} {K : Int → List Int} (h : Ti n U K) : ∃ d : Int → Nat, (∀ i, okI n i → d i < n) ∧ ∀ i, okI n i → U i ≠ -1 → d (U i) < d i := by
 obtain ⟨d, hd⟩ := h.dep
 let L : List Int := (List.range n).map fun (k : Nat) => (k : Int)
 have hL : ∀ i, okI n i → i ∈ L := fun i hi => List.mem_map.2 ⟨i.toNat, List.mem_range.2 (by have := hi.2; have := hi.1; omega), by have := hi.1; omega⟩
 refine ⟨fun i => L.countP fun y => decide (d y < d i), fun i hi => ?_, fun i hi hu => ?_⟩
 ·have h1 : L.countP (fun y => decide (d y < d i)) < L.countP (fun _ => true) := countP_lt (fun _ _ _ => rfl) i (hL i hi) (decide_eq_false (Nat.lt_irrefl _)) rfl
  have h2 : L.countP (fun _ => true) = n := by simp [L]
  show L.countP (fun y => decide (d y < d i)) < n
  omega
 ·have hd := hd i hi hu
  rcases h.up i hi with q | q
  ·exact absurd q hu
  ·exact countP_lt (fun x _ hx => decide_eq_true (Nat.lt_trans (of_decide_eq_true hx) hd)) (U i) (hL _ q.1) (decide_eq_false (Nat.lt_irrefl _)) (decide_eq_true hd)
theorem Ds.le {n : Nat} {U : Int → Int} {K : Int → List Int} (h : Ti n U K) {d : Int → Nat} (hd : ∀ i, okI n i → U i ≠ -1 → d (U i) < d i) {r x : Int} (s : Ds U r x) : okI n x → d r ≤ d x := by
 induction s with
 | here => intro _; exact Nat.le_refl _
 | @up x hu _ ih =>
  intro hx
  rcases h.up x hx with q | q
  ·exact absurd q hu
  ·exact Nat.le_trans (ih q.1) (Nat.le_of_lt (hd x hx hu))
theorem Ds.self {n : Nat} {U : Int → Int} {K : Int → List Int} (h : Ti n U K) {r : Int} (hr : okI n r) (hu : U r ≠ -1) : ¬ Ds U r (U r) := by
 obtain ⟨d, hd⟩ := h.dep
 intro s
 rcases h.up r hr with q | q
 ·exact hu q
 ·have h1 := s.le h hd q.1
  have h2 := hd r hr hu
  omega
theorem mem_kids {n : Nat} {U : Int → Int} {K : Int → List Int} (h : Ti n U K) {i k : Int} (hi : okI n i) : k ∈ K i ↔ okI n k ∧ U k = i := by
 refine ⟨h.kid i hi k, fun ⟨hk, e⟩ => ?_⟩
 rcases h.up k hk with q | q
 ·have := hi.1; omega
 ·have h2 := q.2
  rw [e] at h2
  exact List.count_pos_iff.1 (by omega)
theorem kids_one {n : Nat} {U : Int → Int} {K : Int → List Int} (h : Ti n U K) {i : Int} (hi : okI n i) (k : Int) : (K i).count k ≤ 1 := by
 by_cases hk : k ∈ K i
 ·have hk' := (mem_kids h hi).1 hk
  rcases h.up k hk'.1 with q | q
  ·have := hi.1; omega
  ·have h2 := q.2; rw [hk'.2] at h2; omega
 ·rw [List.count_eq_zero_of_not_mem hk]; omega
theorem len_of_one : ∀ (n : Nat) (l : List Int), (∀ x ∈ l, 0 ≤ x ∧ x < (n : Int)) → (∀ x, l.count x ≤ 1) → l.length ≤ n
 | 0, l, h, _ => by
  cases l with
  | nil => exact Nat.le_refl _
  | cons a l => have := h a List.mem_cons_self; omega
 | n + 1, l, h, h1 => by
  have h2 := len_of_one n (l.erase (n : Int)) (fun x hx => by
   have hm := h x (List.mem_of_mem_erase hx)
   have : x ≠ (n : Int) := fun e => by
    subst e
    have := List.count_pos_iff.2 hx
    rw [List.count_erase_self] at this
    have := h1 (n : Int); omega
   omega) (fun x => Nat.le_trans (List.Sublist.count_le _ List.erase_sublist) (h1 x))
  have h3 := List.length_erase (a := (n : Int)) (l := l)
  split at h3 <;> omega
theorem Ti.len {n : Nat} {U : Int → Int} {K : Int → List Int} (h : Ti n U K) {i : Int} (hi : okI n i) : (K i).length ≤ n :=
 len_of_one n (K i) (fun x hx => (h.kid i hi x hx).1) (kids_one h hi)
theorem Ti.add {n : Nat} {U U' : Int → Int} {K K' : Int → List Int} (h : Ti n U K) (hU : ∀ i, okI n i → U' i = U i) (hK : ∀ i, okI n i → K' i = K i) (hn : U' n = -1) (hk : K' n = []) : Ti (n + 1) U' K' := by
 have hs : ∀ i, okI (n + 1) i → okI n i ∨ i = n := fun i hi => by have := hi.1; have := hi.2; rcases Int.lt_or_le i n with q | q; exact .inl ⟨by omega, by omega⟩; exact .inr (by omega)
 have ho : ∀ i, okI n i → okI (n + 1) i := fun i hi => ⟨hi.1, by have := hi.2; omega⟩
 have h0 : okI n 0 := ⟨by omega, by have := h.pos; omega⟩
 obtain ⟨d, hd⟩ := h.dep
 refine ⟨by omega, by rw [hU 0 h0]; exact h.root, fun i hi k hk' => ?_, fun i hi => ?_, d, fun i hi hu => ?_⟩
 ·rcases hs i hi with q | rfl
  ·rw [hK i q] at hk'
   have := h.kid i q k hk'
   exact ⟨ho _ this.1, by rw [hU _ this.1]; exact this.2⟩
  ·rw [hk] at hk'; cases hk'
 ·rcases hs i hi with q | rfl
  ·rw [hU i q]
   rcases h.up i q with q' | q'
   ·exact .inl q'
   ·exact .inr ⟨ho _ q'.1, by rw [hK _ q'.1]; exact q'.2⟩
  ·exact .inl hn
 ·rcases hs i hi with q | rfl
  ·rw [hU i q] at hu ⊢; exact hd i q hu
  ·exact absurd hn hu
theorem Ti.congr {n : Nat} {U U' : Int → Int} {K K' : Int → List Int} (h : Ti n U K) (hU : ∀ i, okI n i → U' i = U i) (hK : ∀ i, okI n i → K' i = K i) : Ti n U' K' := by
 have h0 : okI n 0 := ⟨by omega, by have := h.pos; omega⟩
 obtain ⟨d, hd⟩ := h.dep
 refine ⟨h.pos, by rw [hU 0 h0]; exact h.root, fun i hi k hk' => ?_, fun i hi => ?_, d, fun i hi hu => ?_⟩
 ·rw [hK i hi] at hk'
  have := h.kid i hi k hk'
  exact ⟨this.1, by rw [hU k this.1]; exact this.2⟩
 ·rw [hU i hi]
  rcases h.up i hi with q | q
  ·exact .inl q
  ·exact .inr ⟨q.1, by rw [hK _ q.1]; exact q.2⟩
 ·rw [hU i hi] at hu ⊢; exact hd i hi hu
theorem Ti.cut {n : Nat} {U U' : Int → Int} {K K' : Int → List Int} (h : Ti n U K) {kid : Int} (hk : okI n kid) (hu : U kid ≠ -1) (hU : ∀ i, okI n i → U' i = if i = kid then -1 else U i) (hK : ∀ i, okI n i → i ≠ U kid → K' i = K i)
  (hKp : ∀ k, (K' (U kid)).count k + (if k = kid then 1 else 0) = (K (U kid)).count k) : Ti n U' K' := by
 have h0 : okI n 0 := ⟨by omega, by have := h.pos; omega⟩
 have hp : okI n (U kid) ∧ (K (U kid)).count kid = 1 := (h.up kid hk).resolve_left hu
 obtain ⟨d, hd⟩ := h.dep
 have hne : ∀ i, okI n i → ∀ k, k ∈ K' i → k ∈ K i ∧ k ≠ kid := fun i hi k hk' => by
  by_cases e : i = U kid
  ·subst e
   have h1 := List.count_pos_iff.2 hk'
   have h2 := hKp k
   by_cases e' : k = kid
   ·subst e'; rw [if_pos rfl, hp.2] at h2; omega
   ·rw [if_neg e'] at h2
    exact ⟨List.count_pos_iff.1 (by omega), e'⟩
  ·rw [hK i hi e] at hk'
   refine ⟨hk', fun e' => ?_⟩
   subst e'
   exact e (h.kid i hi _ hk').2.symm
 refine ⟨h.pos, ?_, fun i hi k hk' => ?_, fun i hi => ?_, d, fun i hi hu' => ?_⟩
 ·rw [hU 0 h0]; split
  ·rfl
  ·exact h.root
 ·obtain ⟨a, b⟩ := hne i hi k hk'
  have := h.kid i hi k a
  exact ⟨this.1, by rw [hU k this.1, if_neg b]; exact this.2⟩
 ·rw [hU i hi]
  split
  ·exact .inl rfl
  ·rename_i e
   rcases h.up i hi with q | q
   ·exact .inl q
   ·refine .inr ⟨q.1, ?_⟩
    by_cases e2 : U i = U kid
    ·have h2 := hKp i
     rw [if_neg e, Nat.add_zero] at h2
     rw [e2, h2, ← e2]; exact q.2
    ·rw [hK _ q.1 e2]; exact q.2
 ·rw [hU i hi] at hu' ⊢
  split at hu'
  ·exact absurd rfl hu'
  ·rename_i e; rw [if_neg e]; exact hd i hi hu'
open Classical in
theorem Ti.put {n : Nat} {U U' : Int → Int} {K K' : Int → List Int} (h : Ti n U K) {kid p : Int} (hk : okI n kid) (hk0 : kid ≠ 0) (hp : okI n p) (hu : U kid = -1) (hd' : ¬ Ds U kid p) (hU : ∀ i, okI n i → U' i = if i = kid then p else U i)
  (hK : ∀ i, okI n i → i ≠ p → K' i = K i) (hKp : ∀ k, (K' p).count k = (K p).count k + if k = kid then 1 else 0) : Ti n U' K' := by
 have h0 : okI n 0 := ⟨by omega, by have := h.pos; omega⟩
 obtain ⟨d, hd⟩ := h.dep
 have hno : kid ∉ K p := fun q => by have := (h.kid p hp _ q).2; have := hp.1; omega
 refine ⟨h.pos, by rw [hU 0 h0, if_neg (Ne.symm hk0)]; exact h.root, fun i hi k hk' => ?_, fun i hi => ?_, fun x => if Ds U kid x then d x + d p + 1 else d x, fun i hi hu' => ?_⟩
 ·by_cases e : i = p
  ·subst e
   have hc := List.count_pos_iff.2 hk'
   rw [hKp] at hc
   by_cases ek : k = kid
   ·subst ek; exact ⟨hk, by rw [hU k hk, if_pos rfl]⟩
   ·rw [if_neg ek] at hc
    have := h.kid i hi k (List.count_pos_iff.1 (by omega))
    exact ⟨this.1, by rw [hU k this.1, if_neg ek]; exact this.2⟩
  ·rw [hK i hi e] at hk'
   have := h.kid i hi k hk'
   exact ⟨this.1, by rw [hU k this.1, if_neg (fun ek => by subst ek; have := hi.1; omega)]; exact this.2⟩
 ·rw [hU i hi]
  split
  ·rename_i e
   subst e
   exact .inr ⟨hp, by rw [hKp, if_pos rfl, List.count_eq_zero_of_not_mem hno]⟩
  ·rename_i e
   rcases h.up i hi with q | q
   ·exact .inl q
   ·refine .inr ⟨q.1, ?_⟩
    by_cases eq : U i = p
    ·rw [eq, hKp, if_neg e, Nat.add_zero, ← eq]; exact q.2
    ·rw [hK _ q.1 eq]; exact q.2
 ·rw [hU i hi] at hu' ⊢
  by_cases e : i = kid
  ·subst e
   simp only [if_true]
   rw [if_neg hd', if_pos Ds.here]; omega
  ·rw [if_neg e] at hu' ⊢
   have hlt := hd i hi hu'
   have hiff : Ds U kid i ↔ Ds U kid (U i) := ⟨fun s => by cases s with | here => exact absurd rfl e | up _ s => exact s, fun s => .up hu' s⟩
   simp only
   by_cases hs : Ds U kid i
   ·rw [if_pos hs, if_pos (hiff.1 hs)]; omega
   ·rw [if_neg hs, if_neg (fun q => hs (hiff.2 q))]; exact hlt
open Classical in
theorem Ti.move {n : Nat} {U U' : Int → Int} {K K' : Int → List Int} (h : Ti n U K) {a b : Int} (ha : okI n a) (hb : okI n b) (hd' : ¬ Ds U a b) (hU : ∀ i, okI n i → U' i = if i ∈ K a then b else U i)
    (hKa : K' a = []) (hKb : K' b = K b ++ K a) (hK : ∀ i, okI n i → i ≠ a → i ≠ b → K' i = K i) : Ti n U' K' := by
  have h0 : okI n 0 := ⟨by omega, by have := h.pos; omega⟩
  have hab : b ≠ a := fun e => hd' (by rw [e]; exact .here)
  obtain ⟨d, hd⟩ := h.dep
  have hm : ∀ i, okI n i → (i ∈ K a ↔ U i = a) := fun i hi => by rw [mem_kids h ha]; exact ⟨fun q => q.2, fun q => ⟨hi, q⟩⟩
  have hU2 : ∀ i, okI n i → U' i = if U i = a then b else U i := fun i hi => by
    rw [hU i hi]
    by_cases q : i ∈ K a
    · rw [if_pos q, if_pos ((hm i hi).1 q)]
    · rw [if_neg q, if_neg (fun e => q ((hm i hi).2 e))]
  refine ⟨h.pos, by rw [hU2 0 h0, h.root, if_neg (by have := ha.1; omega)], fun i hi k hk' => ?_, fun i hi => ?_, fun x => if Ds U a x ∧ x ≠ a then d x + d b + 1 else d x, fun i hi hu' => ?_⟩
  · by_cases ea : i = a
    · subst ea; rw [hKa] at hk'; cases hk'
    · by_cases eb : i = b
      · subst eb
        rw [hKb] at hk'
        rcases List.mem_append.1 hk' with q | q
        · have := h.kid i hi k q
          exact ⟨this.1, by rw [hU2 k this.1, this.2, if_neg hab]⟩
        · have := h.kid a ha k q
          exact ⟨this.1, by rw [hU2 k this.1, if_pos this.2]⟩
      · rw [hK i hi ea eb] at hk'
        have := h.kid i hi k hk'
        exact ⟨this.1, by rw [hU2 k this.1, this.2, if_neg ea]⟩
  · rw [hU2 i hi]
    by_cases e : U i = a
    · rw [if_pos e]
      refine .inr ⟨hb, ?_⟩
      rw [hKb, List.count_append, List.count_eq_zero_of_not_mem (fun q => hab ((h.kid b hb i q).2.symm.trans e))]
      rcases h.up i hi with q | q
      · have := ha.1; omega
      · have h2 := q.2; rw [e] at h2; omega
    · rw [if_neg e]
      rcases h.up i hi with q | q
      · exact .inl q
      · refine .inr ⟨q.1, ?_⟩
        by_cases eb : U i = b
        · rw [eb, hKb, List.count_append, List.count_eq_zero_of_not_mem (l := K a) (fun q' => e ((hm i hi).1 q'))]
          have h2 := q.2; rw [eb] at h2; omega
        · rw [hK _ q.1 e eb]; exact q.2
  · rw [hU2 i hi] at hu' ⊢
    by_cases e : U i = a
    · rw [if_pos e]
      have hi2 : i ≠ a := fun q => by
        have hlt := hd i hi (by rw [e]; have := ha.1; omega)
        rw [e, q] at hlt; omega
      simp only
      rw [if_neg (fun q => hd' q.1), if_pos ⟨.up (by rw [e]; have := ha.1; omega) (by rw [e]; exact .here), hi2⟩]
      omega
    · rw [if_neg e] at hu' ⊢
      have hlt := hd i hi hu'
      simp only
      by_cases hs : Ds U a i ∧ i ≠ a
      · have hs2 : Ds U a (U i) := by
          cases hs.1 with
          | here => exact absurd rfl hs.2
          | up _ s => exact s
        rw [if_pos hs, if_pos ⟨hs2, e⟩]; omega
      · rw [if_neg hs]
        split
        · rename_i q
          by_cases hi2 : i = a
          · subst hi2
            exact absurd q.1 (Ds.self h hi hu')
          · exact absurd ⟨.up hu' q.1, hi2⟩ hs
        · exact hlt
end Go.Vc

namespace Go.Vc
open Go.Proofs
set_option maxRecDepth 10000
set_option maxHeartbeats 4000000
theorem isT_len {l l' : List NodeD} (h : l'.length = l.length) (i : Int) : isT l' i = isT l i := by unfold isT; rw [h]
end Go.Vc

namespace Go.Vc
open Go.Proofs
set_option maxRecDepth 10000
set_option maxHeartbeats 4000000
instance hNew : FnM BB 38 [] [] True (.agg [.own 0]) [(0, .own nodeTy [rootN])] := by
 refine FnM.intro (N := 4) [0] [] 0 Tryz.call38 Tryz.func38 rfl rfl (by kernel_rfl) (fun hpre => ?_)
 repeat' ((conv => whnf);first|(with_reducible first|rfl|exact absTF|exact absFT)|exact True.intro|intro _|refine And.intro ?_ ?_|refine Fin.mk ?_|refine W1 rfl ?_ ?_|refine W2 rfl ?_ ?_|refine W3 rfl ?_ ?_|refine W4 ?_ ?_|refine W5 rfl ?_ ?_|refine W6 ?_ ?_|refine AppN.mk ?_|refine X1 (W1 rfl ?_ ?_)|refine X1 (W2 rfl ?_ ?_)|refine X2 (W7 rfl ?_ ?_)|refine X3 (W7 rfl ?_ ?_)|refine X4 (W7 rfl ?_ ?_)|refine X5 (W7 rfl ?_ ?_))
 all_goals (try (conv => whnf))
 all_goals (try first|exact Ob.mk (u8_bnd _)|(refine Ob.mk ?_;first|exact True.intro|assumption|omega|(try simp only [ZA,ZB,ZC,ZD,ZE,ZF,ZG,ZH,ZI,ZJ,ZK,ZL,ZM,ZN,ZO,Int.toNat_natCast,UInt8.ofNat_toNat,cast_eq] at *;omega)))
 all_goals (try first|(show (_:Int) = _;omega)|(show tupSV _ = _;with_unfolding_all rfl)|((first|show (_:Nat) ≤ _|show (_:Nat) ≤ _ ∧ (_:Nat) ≤ _|show (_:Int) ≤ _ ∧ (_:Int) ≤ _ ∧ (_:Int) ≤ _ ∧ (_:Int) ≤ _);(simp <;> omega)))
 all_goals (first | rfl | trace_state)
instance hIs (l : List NodeD) (i : Int) : Fn BB 76 [.agg [.rd nodeTy l], .int .i64 i] True (.bool (isT l i)) := by
 refine Fn.intro (N := 14) [0, 1, 2, 4] [] Tryz.call76 Tryz.func76 rfl rfl (by kernel_rfl) (fun hpre => ?_)
 repeat' ((conv => whnf);first|(with_reducible first|rfl|exact absTF|exact absFT)|exact True.intro|intro _|refine And.intro ?_ ?_|refine Fin.mk ?_|refine W1 rfl ?_ ?_|refine W2 rfl ?_ ?_|refine W3 rfl ?_ ?_|refine W4 ?_ ?_|refine W5 rfl ?_ ?_|refine W6 ?_ ?_|refine AppN.mk ?_|refine X1 (W1 rfl ?_ ?_)|refine X1 (W2 rfl ?_ ?_)|refine X2 (W7 rfl ?_ ?_)|refine X3 (W7 rfl ?_ ?_)|refine X4 (W7 rfl ?_ ?_)|refine X5 (W7 rfl ?_ ?_))
 all_goals (try (conv => whnf))
 all_goals (try first|exact Ob.mk (u8_bnd _)|(refine Ob.mk ?_;first|exact True.intro|assumption|omega|(try simp only [ZA,ZB,ZC,ZD,ZE,ZF,ZG,ZH,ZI,ZJ,ZK,ZL,ZM,ZN,ZO,Int.toNat_natCast,UInt8.ofNat_toNat,cast_eq] at *;omega)))
 all_goals (try first|(show (_:Int) = _;omega)|(show tupSV _ = _;with_unfolding_all rfl)|((first|show (_:Nat) ≤ _|show (_:Nat) ≤ _ ∧ (_:Nat) ≤ _|show (_:Int) ≤ _ ∧ (_:Int) ≤ _ ∧ (_:Int) ≤ _ ∧ (_:Int) ≤ _);(simp <;> omega)))
 all_goals (first | rfl | trace_state)
instance hHolds (l : List NodeD) (up kid : Int) : Fn BB 77 [.agg [.rd nodeTy l], .int .i64 up, .int .i64 kid] (l.length ≤ 100000) (.bool (holdsT l up kid)) := by
  refine Fn.intro (N := 34) [0, 1, 2, 3, 6, 7, 22, 27] [] Tryz.call77 Tryz.func77 rfl rfl (by kernel_rfl) (fun hpre => ?_)
  repeat' ((conv => whnf);first|(with_reducible first|rfl|exact absTF|exact absFT)|exact True.intro|intro _|refine And.intro ?_ ?_|refine Fin.mk ?_|refine W1 rfl ?_ ?_|refine W2 rfl ?_ ?_|refine W3 rfl ?_ ?_|refine W4 ?_ ?_|refine W5 rfl ?_ ?_|refine W6 ?_ ?_|refine AppN.mk ?_|refine X1 (W1 rfl ?_ ?_)|refine X1 (W2 rfl ?_ ?_)|refine X2 (W7 rfl ?_ ?_)|refine X3 (W7 rfl ?_ ?_)|refine X4 (W7 rfl ?_ ?_)|refine X5 (W7 rfl ?_ ?_))
  all_goals (try (conv => whnf))
  all_goals (try first|exact Ob.mk (u8_bnd _)|(refine Ob.mk ?_;first|exact True.intro|assumption|omega|(try simp only [ZA,ZB,ZC,ZD,ZE,ZF,ZG,ZH,ZI,ZJ,ZK,ZL,ZM,ZN,ZO,Int.toNat_natCast,UInt8.ofNat_toNat,cast_eq] at *;omega)))
  all_goals (try first|(show (_:Int) = _;omega)|(show tupSV _ = _;with_unfolding_all rfl)|((first|show (_:Nat) ≤ _|show (_:Nat) ≤ _ ∧ (_:Nat) ≤ _|show (_:Int) ≤ _ ∧ (_:Int) ≤ _ ∧ (_:Int) ≤ _ ∧ (_:Int) ≤ _);(simp <;> omega)))
  refine LoopStop.mk (α := Nat × Int) (fun a => [(7, .int .i64 (a.1 : Nat)), (2, .int .i64 a.2)]) (fun _ => []) 30 (fun a => a.1 ≤ l.length + 1 ∧ (isT l up && holdsF (l.length + 1 - a.1) l up a.2) = holdsT l up kid) (fun a => l.length + 1 - a.1) (0, kid) ⟨by simp, rfl⟩ ?_ (fun a ha => ?_)
  · repeat' ((conv => whnf);first|(with_reducible first|rfl|exact absTF|exact absFT)|exact True.intro|intro _|refine And.intro ?_ ?_|refine Fin.mk ?_|refine W1 rfl ?_ ?_|refine W2 rfl ?_ ?_|refine W3 rfl ?_ ?_|refine W4 ?_ ?_|refine W5 rfl ?_ ?_|refine W6 ?_ ?_|refine AppN.mk ?_|refine X1 (W1 rfl ?_ ?_)|refine X1 (W2 rfl ?_ ?_)|refine X2 (W7 rfl ?_ ?_)|refine X3 (W7 rfl ?_ ?_)|refine X4 (W7 rfl ?_ ?_)|refine X5 (W7 rfl ?_ ?_))
    all_goals (try (conv => whnf))
    all_goals (try first|exact Ob.mk (u8_bnd _)|(refine Ob.mk ?_;first|exact True.intro|assumption|omega|(try simp only [ZA,ZB,ZC,ZD,ZE,ZF,ZG,ZH,ZI,ZJ,ZK,ZL,ZM,ZN,ZO,Int.toNat_natCast,UInt8.ofNat_toNat,cast_eq] at *;omega)))
    all_goals (try first|(show (_:Int) = _;omega)|(show tupSV _ = _;with_unfolding_all rfl)|((first|show (_:Nat) ≤ _|show (_:Nat) ≤ _ ∧ (_:Nat) ≤ _|show (_:Int) ≤ _ ∧ (_:Int) ≤ _ ∧ (_:Int) ≤ _ ∧ (_:Int) ≤ _);(simp <;> omega)))
    all_goals (first | rfl | trace_state)
  · obtain ⟨k, x⟩ := a
    obtain ⟨h1, h2⟩ := ha
    dsimp only at h1 h2
    have c1 : (decide ((k : Int) ≤ (l.length : Int)) && isT l x && isT l up) = true → k ≤ l.length ∧ isT l x = true ∧ isT l up = true ∧ holdsF (l.length + 1 - k) l up x = holdsT l up kid := fun h => by
      simp only [Bool.and_eq_true] at h
      have h3 := of_decide_eq_true h.1.1
      rw [h.2, Bool.true_and] at h2
      exact ⟨by omega, h.1.2, h.2, h2⟩
    have c0 : (decide ((k : Int) ≤ (l.length : Int)) && isT l x && isT l up) = false → false = holdsT l up kid := fun h => by
      rw [← h2]
      by_cases hu : isT l up = true
      · by_cases hx : isT l x = true
        · rw [hu, hx, Bool.and_true, Bool.and_true] at h
          have := of_decide_eq_false h
          rw [show l.length + 1 - k = 0 by omega, hu]; rfl
        · have : holdsF (l.length + 1 - k) l up x = false := by
            cases l.length + 1 - k with
            | zero => rfl
            | succ m => rw [holdsF, if_neg hx]
          rw [this, Bool.and_false]
      · rw [show isT l up = false by simpa using hu]; rfl
    have c2 : (decide ((k : Int) ≤ (l.length : Int)) && isT l x && isT l up) = true → (x == up) = true → true = holdsT l up kid := fun h h' => by
      obtain ⟨q1, q2, q3, q4⟩ := c1 h
      rw [← q4, show l.length + 1 - k = (l.length - k) + 1 by omega, holdsF, if_pos q2, if_pos (by simpa using h')]
    have c3 : (decide ((k : Int) ≤ (l.length : Int)) && isT l x && isT l up) = true → (x == up) = false → k ≤ l.length ∧ (isT l up && holdsF (l.length + 1 - (k + 1)) l up (nd l x).up) = holdsT l up kid := fun h h' => by
      obtain ⟨q1, q2, q3, q4⟩ := c1 h
      rw [← q4, show l.length + 1 - k = (l.length - k) + 1 by omega, holdsF, if_pos q2, if_neg (by simpa using h'), q3, Bool.true_and, show l.length + 1 - (k + 1) = l.length - k by omega]
      exact ⟨q1, rfl⟩
    repeat' ((conv => whnf);first|(with_reducible first|rfl|exact absTF|exact absFT)|exact True.intro|intro _|refine And.intro ?_ ?_|refine Fin.mk ?_|refine W1 rfl ?_ ?_|refine W2 rfl ?_ ?_|refine W3 rfl ?_ ?_|refine W4 ?_ ?_|refine W5 rfl ?_ ?_|refine W6 ?_ ?_|refine AppN.mk ?_|refine X1 (W1 rfl ?_ ?_)|refine X1 (W2 rfl ?_ ?_)|refine X2 (W7 rfl ?_ ?_)|refine X3 (W7 rfl ?_ ?_)|refine X4 (W7 rfl ?_ ?_)|refine X5 (W7 rfl ?_ ?_))
    all_goals (try (conv => whnf))
    all_goals (try first|exact Ob.mk (u8_bnd _)|(refine Ob.mk ?_;first|exact True.intro|assumption|omega|(try simp only [ZA,ZB,ZC,ZD,ZE,ZF,ZG,ZH,ZI,ZJ,ZK,ZL,ZM,ZN,ZO,Int.toNat_natCast,UInt8.ofNat_toNat,cast_eq] at *;omega)))
    all_goals (try first|(show (_:Int) = _;omega)|(show tupSV _ = _;with_unfolding_all rfl)|((first|show (_:Nat) ≤ _|show (_:Nat) ≤ _ ∧ (_:Nat) ≤ _|show (_:Int) ≤ _ ∧ (_:Int) ≤ _ ∧ (_:Int) ≤ _ ∧ (_:Int) ≤ _);(simp <;> omega)))
    all_goals (try dsimp only at *)
    all_goals (first | exact c2 ‹_› ‹_› | exact c0 ‹_› | exact isT_iff.1 (c1 ‹_›).2.1 | (have := (c1 ‹_›).1; omega) | skip)
    obtain ⟨q1, q2⟩ := c3 ‹_› ‹_›
    refine Rnd.mk ⟨(k + 1, (nd l x).up), ⟨by simp only; omega, q2⟩, by simp only; omega, ?_⟩
    repeat' ((conv => whnf);first|(with_reducible first|rfl|exact absTF|exact absFT)|exact True.intro|intro _|refine And.intro ?_ ?_|refine Fin.mk ?_|refine W1 rfl ?_ ?_|refine W2 rfl ?_ ?_|refine W3 rfl ?_ ?_|refine W4 ?_ ?_|refine W5 rfl ?_ ?_|refine W6 ?_ ?_|refine AppN.mk ?_|refine X1 (W1 rfl ?_ ?_)|refine X1 (W2 rfl ?_ ?_)|refine X2 (W7 rfl ?_ ?_)|refine X3 (W7 rfl ?_ ?_)|refine X4 (W7 rfl ?_ ?_)|refine X5 (W7 rfl ?_ ?_))
    all_goals (try (conv => whnf))
    all_goals (try first|exact Ob.mk (u8_bnd _)|(refine Ob.mk ?_;first|exact True.intro|assumption|omega|(try simp only [ZA,ZB,ZC,ZD,ZE,ZF,ZG,ZH,ZI,ZJ,ZK,ZL,ZM,ZN,ZO,Int.toNat_natCast,UInt8.ofNat_toNat,cast_eq] at *;omega)))
    all_goals (try first|(show (_:Int) = _;omega)|(show tupSV _ = _;with_unfolding_all rfl)|((first|show (_:Nat) ≤ _|show (_:Nat) ≤ _ ∧ (_:Nat) ≤ _|show (_:Int) ≤ _ ∧ (_:Int) ≤ _ ∧ (_:Int) ≤ _ ∧ (_:Int) ≤ _);(simp <;> omega)))
    all_goals (first | rfl | omega | trace_state)
end Go.Vc

namespace Go.Vc
open Go.Proofs
set_option maxRecDepth 10000
set_option maxHeartbeats 4000000
def tidyT (t : List NodeD) : List NodeD := if t = [] then [rootN] else putO t (kidsOf t) [] (List.replicate t.length false) 0 (-1)
theorem unseen_len14 (s : List Bool) : unseen s ≤ s.length := List.count_le_length
theorem pPre_tidy {t : List NodeD} (h : smallT t = true) (h0 : ¬ ((t.length : Int) == 0) = true) : pPre t [] (List.replicate t.length false) 0 := by
 have h1 : 0 < t.length := by
  rcases Nat.eq_zero_or_pos t.length with h | h
  ·exact absurd (by rw [h]; rfl) h0
  ·exact h
 have h2 := small_len h
 have h3 := unseen_len14 ((List.replicate t.length false).set 0 true)
 rw [List.length_set, List.length_replicate] at h3
 refine ⟨h, List.length_replicate, ⟨Int.le_refl 0, by omega⟩, ?_⟩
 show 0 + unseen ((List.replicate t.length false).set 0 true) + 1 ≤ 5000
 omega
theorem tidy_nil {t : List NodeD} (h0 : ((t.length : Int) == 0) = true) : tidyT t = [rootN] := by
 have h1 : t.length = 0 := by have := eq_of_beq h0; omega
 unfold tidyT; rw [if_pos (List.length_eq_zero_iff.1 h1)]
theorem tidy_eq {t : List NodeD} (h0 : ¬ ((t.length : Int) == 0) = true) : tidyT t = putO t (kidsOf t) [] (List.replicate t.length false) 0 (-1) := by
 unfold tidyT; rw [if_neg (fun h => h0 (by rw [h]; rfl))]
instance hTidyN (t : List NodeD) : FnM BN 86 [.agg [.rd nodeTy t]] [] (smallT t = true) (.agg [.rd nodeTy (tidyT t)]) [] := by
 refine FnM.intro (N := 15) [0, 1, 2, 6] [(3, [4, 4, 0, 4, 4, 4, 4, 4])] 0 Tryz.call86 Tryz.func86 rfl rfl (by kernel_rfl) (fun hpre => ?_)
 repeat' ((conv => whnf);first|(with_reducible first|rfl|exact absTF|exact absFT)|exact True.intro|intro _|refine And.intro ?_ ?_|refine Fin.mk ?_|refine W1 rfl ?_ ?_|refine W2 rfl ?_ ?_|refine W3 rfl ?_ ?_|refine W4 ?_ ?_|refine W5 rfl ?_ ?_|refine W6 ?_ ?_|refine AppN.mk ?_|refine X1 (W1 rfl ?_ ?_)|refine X1 (W2 rfl ?_ ?_)|refine X2 (W7 rfl ?_ ?_)|refine X3 (W7 rfl ?_ ?_)|refine X4 (W7 rfl ?_ ?_)|refine X5 (W7 rfl ?_ ?_))
 all_goals (try (conv => whnf))
 all_goals (try first|exact Ob.mk (u8_bnd _)|(refine Ob.mk ?_;first|exact True.intro|assumption|omega|(try simp only [ZA,ZB,ZC,ZD,ZE,ZF,ZG,ZH,ZI,ZJ,ZK,ZL,ZM,ZN,ZO,Int.toNat_natCast,UInt8.ofNat_toNat,cast_eq] at *;omega)))
 all_goals (try first|(show (_:Int) = _;omega)|(show tupSV _ = _;with_unfolding_all rfl)|((first|show (_:Nat) ≤ _|show (_:Nat) ≤ _ ∧ (_:Nat) ≤ _|show (_:Int) ≤ _ ∧ (_:Int) ≤ _ ∧ (_:Int) ≤ _ ∧ (_:Int) ≤ _);(simp <;> omega)))
 ·rw [tidy_nil ‹_›]
 all_goals (have h0 : ¬ ((t.length : Int) == 0) = true := by rw [show ((t.length : Int) == 0) = false from by assumption]; decide)
 all_goals (first | exact pPre_tidy hpre h0 | (rw [tidy_eq h0]; rfl) | (have := small_len hpre; refine ⟨by omega, by omega, ?_, by omega⟩; show (t.length : Int) * ((1 : Nat) : Int) ≤ _; omega))
instance hTidy14 (t : List NodeD) : FnM BB 86 [.agg [.rd nodeTy t]] [] (smallT t = true) (.agg [.rd nodeTy (tidyT t)]) [] :=
 have h := hTidyN t
 ⟨h.call, h.ok⟩
end Go.Vc

namespace Go.Vc
open Go.Proofs
set_option maxRecDepth 10000
instance f40 (k s : Int) (nm : List UInt8) (at_ : List AttrD) (d : List UInt8) (up : Int) (kids : List Int) (k' s' : Int) (nm' : List UInt8) (at_' : List AttrD) (d' : List UInt8) (up' : Int) (kids' : List Int) :
  Fn BB 110 [.agg [.int .i64 k, .int .i64 s, .str nm, .rd attrTy at_, .str d, .int .i64 up, .rd intTy kids], .agg [.int .i64 k', .int .i64 s', .str nm', .rd attrTy at_', .str d', .int .i64 up', .rd intTy kids']]
   True (.bool (eqB (α := NodeD) (k, s, nm, at_, d, up, kids) (k', s', nm', at_', d', up', kids'))) := by
 refine Fn.intro (N := 71) [0, 1, 2, 3, 4, 5, 47, 52, 65] [(6, [0, 1, 0, 1, 1, 0, 1, 0, 1, 1, 3])] Tryz.call110 Tryz.func110 rfl rfl (by kernel_rfl) (fun hpre => ?_)
 repeat' ((conv => whnf);first|(with_reducible first|rfl|exact absTF|exact absFT)|exact True.intro|intro _|refine And.intro ?_ ?_|refine Fin.mk ?_|refine W1 rfl ?_ ?_|refine W2 rfl ?_ ?_|refine W3 rfl ?_ ?_|refine W4 ?_ ?_|refine W5 rfl ?_ ?_|refine W6 ?_ ?_|refine AppN.mk ?_|refine X1 (W1 rfl ?_ ?_)|refine X1 (W2 rfl ?_ ?_)|refine X2 (W7 rfl ?_ ?_)|refine X3 (W7 rfl ?_ ?_)|refine X4 (W7 rfl ?_ ?_)|refine X5 (W7 rfl ?_ ?_))
 all_goals (try (conv => whnf))
 all_goals (try first|exact Ob.mk (u8_bnd _)|(refine Ob.mk ?_;first|exact True.intro|assumption|omega|(try simp only [ZA,ZB,ZC,ZD,ZE,ZF,ZG,ZH,ZI,ZJ,ZK,ZL,ZM,ZN,ZO,Int.toNat_natCast,UInt8.ofNat_toNat,cast_eq] at *;omega)))
 all_goals (try first|(show (_:Int) = _;omega)|(show tupSV _ = _;with_unfolding_all rfl)|((first|show (_:Nat) ≤ _|show (_:Nat) ≤ _ ∧ (_:Nat) ≤ _|show (_:Int) ≤ _ ∧ (_:Int) ≤ _ ∧ (_:Int) ≤ _ ∧ (_:Int) ≤ _);(simp <;> omega)))
 ·rename_i h
  refine eqB_false fun e => ?_
  simp only [Prod.mk.injEq] at e
  obtain ⟨rfl, rfl, rfl, rfl, rfl, rfl, rfl⟩ := e
  simp at h
 ·rename_i h
  simp only [Bool.or_eq_false_iff, bne_eq_false_iff_eq, Bool.not_eq_false', beq_iff_eq] at h
  obtain ⟨⟨⟨⟨⟨rfl, rfl⟩, rfl⟩, rfl⟩, rfl⟩, hl⟩ := h
  refine LoopStop.mk (α := Nat) (fun i => [(5, .int .i64 i)]) (fun _ => []) 20 (fun i => i ≤ kids.length ∧ kids.take i = kids'.take i) (fun i => kids.length - i) 0 (by simp) ?_ (fun i hi => ?_)
  ·repeat' ((conv => whnf);first|(with_reducible first|rfl|exact absTF|exact absFT)|exact True.intro|intro _|refine And.intro ?_ ?_|refine Fin.mk ?_|refine W1 rfl ?_ ?_|refine W2 rfl ?_ ?_|refine W3 rfl ?_ ?_|refine W4 ?_ ?_|refine W5 rfl ?_ ?_|refine W6 ?_ ?_|refine AppN.mk ?_|refine X1 (W1 rfl ?_ ?_)|refine X1 (W2 rfl ?_ ?_)|refine X2 (W7 rfl ?_ ?_)|refine X3 (W7 rfl ?_ ?_)|refine X4 (W7 rfl ?_ ?_)|refine X5 (W7 rfl ?_ ?_))
   all_goals (try (conv => whnf))
   all_goals (try rfl)
  ·obtain ⟨hi, ha⟩ := hi
   repeat' ((conv => whnf);first|(with_reducible first|rfl|exact absTF|exact absFT)|exact True.intro|intro _|refine And.intro ?_ ?_|refine Fin.mk ?_|refine W1 rfl ?_ ?_|refine W2 rfl ?_ ?_|refine W3 rfl ?_ ?_|refine W4 ?_ ?_|refine W5 rfl ?_ ?_|refine W6 ?_ ?_|refine AppN.mk ?_|refine X1 (W1 rfl ?_ ?_)|refine X1 (W2 rfl ?_ ?_)|refine X2 (W7 rfl ?_ ?_)|refine X3 (W7 rfl ?_ ?_)|refine X4 (W7 rfl ?_ ?_)|refine X5 (W7 rfl ?_ ?_))
   all_goals (try (conv => whnf))
   all_goals (try first|exact Ob.mk (u8_bnd _)|(refine Ob.mk ?_;first|exact True.intro|assumption|omega|(try simp only [ZA,ZB,ZC,ZD,ZE,ZF,ZG,ZH,ZI,ZJ,ZK,ZL,ZM,ZN,ZO,Int.toNat_natCast,UInt8.ofNat_toNat,cast_eq] at *;omega)))
   all_goals (try first|(show (_:Int) = _;omega)|(show tupSV _ = _;with_unfolding_all rfl)|((first|show (_:Nat) ≤ _|show (_:Nat) ≤ _ ∧ (_:Nat) ≤ _|show (_:Int) ≤ _ ∧ (_:Int) ≤ _ ∧ (_:Int) ≤ _ ∧ (_:Int) ≤ _);(simp <;> omega)))
   all_goals (simp only [decide_eq_true_eq, decide_eq_false_iff_not, bne_eq_false_iff_eq, bne_iff_ne, ne_eq, Bool.not_eq_true', Bool.not_eq_false', Bool.and_true] at *)
   ·rename_i h
    refine eqB_false fun e => h ?_
    simp only [Prod.mk.injEq] at e
    rw [e.2.2.2.2.2.2]
   ·rename_i h
    have hil : i < kids.length := by omega
    refine Rnd.mk ⟨i + 1, ?_, ?_, ?_⟩
    ·exact ⟨by omega, take_eq_snoc (d := intTy.dflt) hil (by omega) ha h⟩
    ·omega
    ·repeat' ((conv => whnf);first|(with_reducible first|rfl|exact absTF|exact absFT)|exact True.intro|intro _|refine And.intro ?_ ?_|refine Fin.mk ?_|refine W1 rfl ?_ ?_|refine W2 rfl ?_ ?_|refine W3 rfl ?_ ?_|refine W4 ?_ ?_|refine W5 rfl ?_ ?_|refine W6 ?_ ?_|refine AppN.mk ?_|refine X1 (W1 rfl ?_ ?_)|refine X1 (W2 rfl ?_ ?_)|refine X2 (W7 rfl ?_ ?_)|refine X3 (W7 rfl ?_ ?_)|refine X4 (W7 rfl ?_ ?_)|refine X5 (W7 rfl ?_ ?_))
     all_goals (try (conv => whnf))
     all_goals (try first|exact Ob.mk (u8_bnd _)|(refine Ob.mk ?_;first|exact True.intro|assumption|omega|(try simp only [ZA,ZB,ZC,ZD,ZE,ZF,ZG,ZH,ZI,ZJ,ZK,ZL,ZM,ZN,ZO,Int.toNat_natCast,UInt8.ofNat_toNat,cast_eq] at *;omega)))
     all_goals (try first|(show (_:Int) = _;omega)|(show tupSV _ = _;with_unfolding_all rfl)|((first|show (_:Nat) ≤ _|show (_:Nat) ≤ _ ∧ (_:Nat) ≤ _|show (_:Int) ≤ _ ∧ (_:Int) ≤ _ ∧ (_:Int) ≤ _ ∧ (_:Int) ≤ _);(simp <;> omega)))
   ·have hk : i = kids.length := by omega
    subst hk
    rw [List.take_length, List.take_of_length_le (by omega)] at ha
    subst ha
    by_cases he : at_ = at_'
    ·subst he; rw [decide_eq_true rfl]; exact eqB_true rfl
    ·rw [decide_eq_false he]; refine eqB_false fun e => he ?_
     simp only [Prod.mk.injEq] at e
     exact e.2.2.2.1
instance f16 (a b : List NodeD) : Fn BB 85 [.agg [.rd nodeTy a], .agg [.rd nodeTy b]] True (.bool (eqB a b)) := by
 refine Fn.intro (N := 32) [0, 1, 2, 3, 4, 5, 12, 17, 31] [(6, [0, 1, 0, 1, 1, 0, 1, 0, 1, 1, 3, 3])] Tryz.call85 Tryz.func85 rfl rfl (by kernel_rfl) (fun hpre => ?_)
 repeat' ((conv => whnf);first|(with_reducible first|rfl|exact absTF|exact absFT)|exact True.intro|intro _|refine And.intro ?_ ?_|refine Fin.mk ?_|refine W1 rfl ?_ ?_|refine W2 rfl ?_ ?_|refine W3 rfl ?_ ?_|refine W4 ?_ ?_|refine W5 rfl ?_ ?_|refine W6 ?_ ?_|refine AppN.mk ?_|refine X1 (W1 rfl ?_ ?_)|refine X1 (W2 rfl ?_ ?_)|refine X2 (W7 rfl ?_ ?_)|refine X3 (W7 rfl ?_ ?_)|refine X4 (W7 rfl ?_ ?_)|refine X5 (W7 rfl ?_ ?_))
 all_goals (try (conv => whnf))
 ·refine eqB_false fun e => ?_
  subst e; simp_all
 ·refine LoopStop.mk (α := Nat) (fun i => [(5, .int .i64 i)]) (fun _ => []) 20 (fun i => i ≤ a.length ∧ a.take i = b.take i) (fun i => a.length - i) 0 (by simp) ?_ (fun i hi => ?_)
  ·repeat' ((conv => whnf);first|(with_reducible first|rfl|exact absTF|exact absFT)|exact True.intro|intro _|refine And.intro ?_ ?_|refine Fin.mk ?_|refine W1 rfl ?_ ?_|refine W2 rfl ?_ ?_|refine W3 rfl ?_ ?_|refine W4 ?_ ?_|refine W5 rfl ?_ ?_|refine W6 ?_ ?_|refine AppN.mk ?_|refine X1 (W1 rfl ?_ ?_)|refine X1 (W2 rfl ?_ ?_)|refine X2 (W7 rfl ?_ ?_)|refine X3 (W7 rfl ?_ ?_)|refine X4 (W7 rfl ?_ ?_)|refine X5 (W7 rfl ?_ ?_))
   all_goals (try (conv => whnf))
   all_goals (try rfl)
  ·obtain ⟨hi, ha⟩ := hi
   repeat' ((conv => whnf);first|(with_reducible first|rfl|exact absTF|exact absFT)|exact True.intro|intro _|refine And.intro ?_ ?_|refine Fin.mk ?_|refine W1 rfl ?_ ?_|refine W2 rfl ?_ ?_|refine W3 rfl ?_ ?_|refine W4 ?_ ?_|refine W5 rfl ?_ ?_|refine W6 ?_ ?_|refine AppN.mk ?_|refine X1 (W1 rfl ?_ ?_)|refine X1 (W2 rfl ?_ ?_)|refine X2 (W7 rfl ?_ ?_)|refine X3 (W7 rfl ?_ ?_)|refine X4 (W7 rfl ?_ ?_)|refine X5 (W7 rfl ?_ ?_))
   all_goals (try (conv => whnf))
   all_goals (try first|exact Ob.mk (u8_bnd _)|(refine Ob.mk ?_;first|exact True.intro|assumption|omega|(try simp only [ZA,ZB,ZC,ZD,ZE,ZF,ZG,ZH,ZI,ZJ,ZK,ZL,ZM,ZN,ZO,Int.toNat_natCast,UInt8.ofNat_toNat,cast_eq] at *;omega)))
   all_goals (try first|(show (_:Int) = _;omega)|(show tupSV _ = _;with_unfolding_all rfl)|((first|show (_:Nat) ≤ _|show (_:Nat) ≤ _ ∧ (_:Nat) ≤ _|show (_:Int) ≤ _ ∧ (_:Int) ≤ _ ∧ (_:Int) ≤ _ ∧ (_:Int) ≤ _);(simp <;> omega)))
   all_goals (simp only [decide_eq_true_eq, decide_eq_false_iff_not, bne_eq_false_iff_eq, bne_iff_ne, ne_eq, Bool.not_eq_true', Bool.not_eq_false', Bool.and_true] at *)
   ·rename_i h
    have h := eqB_no.1 h
    refine eqB_false fun e => h ?_
    rw [e]
   ·rename_i h
    have h := eqB_iff.1 h
    have hil : i < a.length := by omega
    refine Rnd.mk ⟨i + 1, ?_, ?_, ?_⟩
    ·exact ⟨by omega, take_eq_snoc (d := nodeTy.dflt) hil (by omega) ha h⟩
    ·omega
    ·repeat' ((conv => whnf);first|(with_reducible first|rfl|exact absTF|exact absFT)|exact True.intro|intro _|refine And.intro ?_ ?_|refine Fin.mk ?_|refine W1 rfl ?_ ?_|refine W2 rfl ?_ ?_|refine W3 rfl ?_ ?_|refine W4 ?_ ?_|refine W5 rfl ?_ ?_|refine W6 ?_ ?_|refine AppN.mk ?_|refine X1 (W1 rfl ?_ ?_)|refine X1 (W2 rfl ?_ ?_)|refine X2 (W7 rfl ?_ ?_)|refine X3 (W7 rfl ?_ ?_)|refine X4 (W7 rfl ?_ ?_)|refine X5 (W7 rfl ?_ ?_))
     all_goals (try (conv => whnf))
     all_goals (try first|exact Ob.mk (u8_bnd _)|(refine Ob.mk ?_;first|exact True.intro|assumption|omega|(try simp only [ZA,ZB,ZC,ZD,ZE,ZF,ZG,ZH,ZI,ZJ,ZK,ZL,ZM,ZN,ZO,Int.toNat_natCast,UInt8.ofNat_toNat,cast_eq] at *;omega)))
     all_goals (try first|(show (_:Int) = _;omega)|(show tupSV _ = _;with_unfolding_all rfl)|((first|show (_:Nat) ≤ _|show (_:Nat) ≤ _ ∧ (_:Nat) ≤ _|show (_:Int) ≤ _ ∧ (_:Int) ≤ _ ∧ (_:Int) ≤ _ ∧ (_:Int) ≤ _);(simp <;> omega)))
   ·have hk : i = a.length := by omega
    subst hk
    rw [List.take_length, List.take_of_length_le (by omega)] at ha
    exact eqB_true ha
end Go.Vc

namespace Go.Vc
open Go.Proofs
set_option maxRecDepth 10000
def wSelect : List UInt8 := [115, 101, 108, 101, 99, 116]
def wTd : List UInt8 := [116, 100]
def wTh : List UInt8 := [116, 104]
def wTr : List UInt8 := [116, 114]
def wTbody : List UInt8 := [116, 98, 111, 100, 121]
def wTfoot : List UInt8 := [116, 102, 111, 111, 116]
def wThead : List UInt8 := [116, 104, 101, 97, 100]
def wCaption : List UInt8 := [99, 97, 112, 116, 105, 111, 110]
def wColgroup : List UInt8 := [99, 111, 108, 103, 114, 111, 117, 112]
def wTable : List UInt8 := [116, 97, 98, 108, 101]
def wHead : List UInt8 := [104, 101, 97, 100]
def wBody : List UInt8 := [98, 111, 100, 121]
def wHtml : List UInt8 := [104, 116, 109, 108]
def toldL (nm : List UInt8) (hd : Int) : Int × Bool :=
 bif nm == wSelect then (13, true) else bif nm == wTd || nm == wTh then (12, false) else bif nm == wTr then (11, true)
 else bif nm == wTbody || (nm == wTfoot || nm == wThead) then (10, true) else bif nm == wCaption then (8, true) else bif nm == wColgroup then (9, true)
 else bif nm == wTable then (7, true) else bif nm == wHead then (3, false) else bif nm == wBody then (5, true)
 else bif nm == wHtml then (bif hd == 0 then (2, true) else (4, true)) else (0, false)
set_option maxHeartbeats 4000000
instance u99 (t : List NodeD) (op : List Int) (nm : List UInt8) (at_ md bk lx fm hd : Int) (fo sk last : Bool) (ins : List UInt8) :
  FnM BB 75 [.loc 0 0, .str nm, .int .i64 at_, .bool last]
   [(0, .box [.own 1, .own 2, .nils, .int .i64 md, .int .i64 bk, .int .i64 lx, .int .i64 fm, .int .i64 hd, .bool fo, .bool sk, .str ins]), (1, .own nodeTy t), (2, .own intTy op)] (last = true)
   (.tup [.int .i64 (toldL nm hd).1, .bool (toldL nm hd).2])
   [(0, .box [.own 1, .own 2, .nils, .int .i64 md, .int .i64 bk, .int .i64 lx, .int .i64 fm, .int .i64 hd, .bool fo, .bool sk, .str ins]), (1, .own nodeTy t), (2, .own intTy op)] := by
 refine FnM.intro (N := 47) [0, 1, 2, 3, 8, 9, 10, 11, 13, 17, 22, 24, 28, 30, 32, 34, 38, 40, 46] [] 3 Tryz.call75 Tryz.func75 rfl rfl (by kernel_rfl) (fun hpre => ?_)
 subst hpre
 repeat' ((conv => whnf);first|(with_reducible first|rfl|exact absTF|exact absFT)|exact True.intro|intro _|refine And.intro ?_ ?_|refine Fin.mk ?_|refine W1 rfl ?_ ?_|refine W2 rfl ?_ ?_|refine W3 rfl ?_ ?_|refine W4 ?_ ?_|refine W5 rfl ?_ ?_|refine W6 ?_ ?_|refine AppN.mk ?_|refine X1 (W1 rfl ?_ ?_)|refine X1 (W2 rfl ?_ ?_)|refine X2 (W7 rfl ?_ ?_)|refine X3 (W7 rfl ?_ ?_)|refine X4 (W7 rfl ?_ ?_)|refine X5 (W7 rfl ?_ ?_))
 all_goals (try (conv => whnf))
 all_goals (try first|exact Ob.mk (u8_bnd _)|(refine Ob.mk ?_;first|exact True.intro|assumption|omega|(try simp only [ZA,ZB,ZC,ZD,ZE,ZF,ZG,ZH,ZI,ZJ,ZK,ZL,ZM,ZN,ZO,Int.toNat_natCast,UInt8.ofNat_toNat,cast_eq] at *;omega)))
 all_goals (try first|(show (_:Int) = _;omega)|(show tupSV _ = _;with_unfolding_all rfl)|((first|show (_:Nat) ≤ _|show (_:Nat) ≤ _ ∧ (_:Nat) ≤ _|show (_:Int) ≤ _ ∧ (_:Int) ≤ _ ∧ (_:Int) ≤ _ ∧ (_:Int) ≤ _);(simp <;> omega)))
 all_goals (unfold toldL wSelect wTd wTh wTr wTbody wTfoot wThead wCaption wColgroup wTable wHead wBody wHtml)
 all_goals (simp_all [Bool.cond_eq_ite]; done)
end Go.Vc

namespace Go.Vc
open Go.Proofs
set_option maxRecDepth 10000
set_option maxHeartbeats 2000000
instance sf12 (md bk lx fm hd : Int) (fo sk : Bool) (ins : List UInt8) (l : List NodeD) (k s : Int) (nm : List UInt8) (at_ : List AttrD) (d : List UInt8) (up : Int) (kids : List Int) :
  FnM BB 34 [.loc 0 0, .agg [.int .i64 k, .int .i64 s, .str nm, .rd attrTy at_, .str d, .int .i64 up, .rd intTy kids]] [(0, .box [.own 1, .nils, .nils, .int .i64 md, .int .i64 bk, .int .i64 lx, .int .i64 fm, .int .i64 hd, .bool fo, .bool sk, .str ins]), (1, .own nodeTy l)] (l.length ≤ 100000 ∧ at_.length ≤ 100000)
   (.int .i64 l.length) [(0, .box [.own 1, .nils, .nils, .int .i64 md, .int .i64 bk, .int .i64 lx, .int .i64 fm, .int .i64 hd, .bool fo, .bool sk, .str ins]), (1, .own nodeTy (addT l (k, s, nm, at_, d, up, kids)))] := by
 refine FnM.intro (N := 32) [0, 1, 3, 4] [(1, [0, 0, 0, 0, 1, 0, 1, 0, 1, 0, 1, 0, 1, 1, 0, 1, 1, 1, 3, 0, 0, 3])] 2 Tryz.call34 Tryz.func34 rfl rfl (by kernel_rfl) (fun hpre => ?_)
 obtain ⟨hp1, hp2⟩ := hpre
 repeat' ((conv => whnf);first|(with_reducible first|rfl|exact absTF|exact absFT)|exact True.intro|intro _|refine And.intro ?_ ?_|refine Fin.mk ?_|refine W1 rfl ?_ ?_|refine W2 rfl ?_ ?_|refine W3 rfl ?_ ?_|refine W4 ?_ ?_|refine W5 rfl ?_ ?_|refine W6 ?_ ?_|refine AppN.mk ?_|refine X1 (W1 rfl ?_ ?_)|refine X1 (W2 rfl ?_ ?_)|refine X2 (W7 rfl ?_ ?_)|refine X3 (W7 rfl ?_ ?_)|refine X4 (W7 rfl ?_ ?_)|refine X5 (W7 rfl ?_ ?_))
 all_goals (try (conv => whnf))
 all_goals (try first|exact Ob.mk (u8_bnd _)|(refine Ob.mk ?_;first|exact True.intro|assumption|omega|(try simp only [ZA,ZB,ZC,ZD,ZE,ZF,ZG,ZH,ZI,ZJ,ZK,ZL,ZM,ZN,ZO,Int.toNat_natCast,UInt8.ofNat_toNat,cast_eq] at *;omega)))
 all_goals (try first|(show (_:Int) = _;omega)|(show tupSV _ = _;with_unfolding_all rfl)|((first|show (_:Nat) ≤ _|show (_:Nat) ≤ _ ∧ (_:Nat) ≤ _|show (_:Int) ≤ _ ∧ (_:Int) ≤ _ ∧ (_:Int) ≤ _ ∧ (_:Int) ≤ _);(simp <;> omega)))
 ·simp
 ·rfl
instance sf15 (md bk lx fm hd : Int) (fo sk : Bool) (ins : List UInt8) (l : List NodeD) (kid : Int) : FnM BB 72 [.loc 0 0, .int .i64 kid] [(0, .box [.own 1, .nils, .nils, .int .i64 md, .int .i64 bk, .int .i64 lx, .int .i64 fm, .int .i64 hd, .bool fo, .bool sk, .str ins]), (1, .own nodeTy l)] (smallT l = true)
      (.tup []) [(0, .box [.own 1, .nils, .nils, .int .i64 md, .int .i64 bk, .int .i64 lx, .int .i64 fm, .int .i64 hd, .bool fo, .bool sk, .str ins]), (1, .own nodeTy (cutT l kid))] := by
  refine FnM.intro (N := 54) [0, 1, 4, 5, 12, 46] [(2, [0, 0, 0, 1, 0, 0, 0, 1, 0, 1, 1, 1, 3, 3])] 2 Tryz.call72 Tryz.func72 rfl rfl (by kernel_rfl) (fun hpre => ?_)
  have H : placeT l kid ≥ 0 → (0 ≤ kid ∧ kid < l.length) ∧ (0 ≤ (nd l kid).up ∧ (nd l kid).up < l.length) ∧ placeT l kid < (nd l (nd l kid).up).kids.length ∧ (nd l (nd l kid).up).kids.length ≤ 1000 := by
    intro h
    obtain ⟨h1, h2, h3⟩ := place_nonneg h
    exact ⟨isT_iff.1 h1, isT_iff.1 h2, h3, (small_at hpre _ h2).2⟩
  by_cases h0 : placeT l kid ≥ 0
  · obtain ⟨f1, f2, f3, f4⟩ := H h0
    clear H
    repeat' ((conv => whnf);first|(with_reducible first|rfl|exact absTF|exact absFT)|exact True.intro|intro _|refine And.intro ?_ ?_|refine Fin.mk ?_|refine W1 rfl ?_ ?_|refine W2 rfl ?_ ?_|refine W3 rfl ?_ ?_|refine W4 ?_ ?_|refine W5 rfl ?_ ?_|refine W6 ?_ ?_|refine AppN.mk ?_|refine X1 (W1 rfl ?_ ?_)|refine X1 (W2 rfl ?_ ?_)|refine X2 (W7 rfl ?_ ?_)|refine X3 (W7 rfl ?_ ?_)|refine X4 (W7 rfl ?_ ?_)|refine X5 (W7 rfl ?_ ?_))
    all_goals (try (conv => whnf))
    all_goals (try first|exact Ob.mk (u8_bnd _)|(refine Ob.mk ?_;first|exact True.intro|assumption|omega|(try simp only [ZA,ZB,ZC,ZD,ZE,ZF,ZG,ZH,ZI,ZJ,ZK,ZL,ZM,ZN,ZO,Int.toNat_natCast,UInt8.ofNat_toNat,cast_eq] at *;omega)))
    all_goals (try first|(show (_:Int) = _;omega)|(show tupSV _ = _;with_unfolding_all rfl)|((first|show (_:Nat) ≤ _|show (_:Nat) ≤ _ ∧ (_:Nat) ≤ _|show (_:Int) ≤ _ ∧ (_:Int) ≤ _ ∧ (_:Int) ≤ _ ∧ (_:Int) ≤ _);(simp <;> omega)))
    all_goals (first
      | (show (nd l kid).up.toNat < _; omega)
      | exact Nat.le_trans f4 (by omega)
      | (show 0 ≤ placeT l kid ∧ _; refine ⟨h0, by omega, ?_⟩; show placeT l kid + 1 ≤ ((nd l (nd l kid).up).kids.length : Int); omega)
      | exact isT_iff.1 ((Bool.and_eq_true_iff.1 ‹(_ && _) = true›).2)
      | skip)
    · rename_i h
      have h := Bool.and_eq_true_iff.1 h
      have h2 : isT (cutA l kid) kid = true := by rw [cutA, if_pos h0]; exact h.2
      have h3 : isT l kid = true := by have := h.2; rw [isT_set] at this; exact this
      rw [cutT, if_pos ⟨by simpa using h.1, h3⟩, cutA, if_pos h0]
      rfl
    · rename_i h
      have h1 : ¬ (kid ≠ 0 ∧ isT l kid = true) := fun hc => by
        rw [isT_set] at h
        simp [hc.1, hc.2] at h
      rw [cutT, if_neg h1, cutA, if_pos h0]
      rfl
    all_goals (exfalso; have := of_decide_eq_false ‹decide (placeT l kid ≥ 0) = false›; exact this h0)
  · have h1 : decide (placeT l kid ≥ 0) = false := decide_eq_false h0
    clear H
    repeat' ((conv => whnf);first|(with_reducible first|rfl|exact absTF|exact absFT)|exact True.intro|intro _|refine And.intro ?_ ?_|refine Fin.mk ?_|refine W1 rfl ?_ ?_|refine W2 rfl ?_ ?_|refine W3 rfl ?_ ?_|refine W4 ?_ ?_|refine W5 rfl ?_ ?_|refine W6 ?_ ?_|refine AppN.mk ?_|refine X1 (W1 rfl ?_ ?_)|refine X1 (W2 rfl ?_ ?_)|refine X2 (W7 rfl ?_ ?_)|refine X3 (W7 rfl ?_ ?_)|refine X4 (W7 rfl ?_ ?_)|refine X5 (W7 rfl ?_ ?_))
    all_goals (try (conv => whnf))
    all_goals (try first|exact Ob.mk (u8_bnd _)|(refine Ob.mk ?_;first|exact True.intro|assumption|omega|(try simp only [ZA,ZB,ZC,ZD,ZE,ZF,ZG,ZH,ZI,ZJ,ZK,ZL,ZM,ZN,ZO,Int.toNat_natCast,UInt8.ofNat_toNat,cast_eq] at *;omega)))
    all_goals (try first|(show (_:Int) = _;omega)|(show tupSV _ = _;with_unfolding_all rfl)|((first|show (_:Nat) ≤ _|show (_:Nat) ≤ _ ∧ (_:Nat) ≤ _|show (_:Int) ≤ _ ∧ (_:Int) ≤ _ ∧ (_:Int) ≤ _ ∧ (_:Int) ≤ _);(simp <;> omega)))
    all_goals (first
      | (exfalso; exact h0 (of_decide_eq_true ‹decide (placeT l kid ≥ 0) = true›))
      | exact isT_iff.1 ((Bool.and_eq_true_iff.1 ‹(_ && _) = true›).2)
      | (have hh := isT_iff.1 ((Bool.and_eq_true_iff.1 ‹(kid != 0 && isT l kid) = true›).2); omega)
      | skip)
    · rename_i h
      have h := Bool.and_eq_true_iff.1 h
      rw [cutT, if_pos ⟨by simpa using h.1, h.2⟩, cutA, if_neg h0]
      rfl
    · rename_i h
      have h1 : ¬ (kid ≠ 0 ∧ isT l kid = true) := fun hc => by
        simp [hc.1, hc.2] at h
      rw [cutT, if_neg h1, cutA, if_neg h0]
instance sf13 (md bk lx fm hd : Int) (fo sk : Bool) (ins : List UInt8) (l : List NodeD) (up at_ kid : Int) : FnM BB 35 [.loc 0 0, .int .i64 up, .int .i64 at_, .int .i64 kid] [(0, .box [.own 1, .nils, .nils, .int .i64 md, .int .i64 bk, .int .i64 lx, .int .i64 fm, .int .i64 hd, .bool fo, .bool sk, .str ins]), (1, .own nodeTy l)] (smallT l = true)
      (.tup []) [(0, .box [.own 1, .nils, .nils, .int .i64 md, .int .i64 bk, .int .i64 lx, .int .i64 fm, .int .i64 hd, .bool fo, .bool sk, .str ins]), (1, .own nodeTy (putT l up at_ kid))] := by
  refine FnM.intro (N := 71) [0, 1, 2, 3, 8, 34] [(3, [0, 0, 0, 0, 1, 2, 0, 1, 0, 0, 0, 1, 1, 1, 0, 2, 3, 0, 0, 3])] 2 Tryz.call35 Tryz.func35 rfl rfl (by kernel_rfl) (fun hpre => ?_)
  have hsm := cutT_sm (kid := kid) (smB_of hpre)
  have hll := small_len hpre
  have hu : (!isT l up || !isT l kid || kid == 0 || holdsT l kid up) = false → (0 ≤ up ∧ up < (cutT l kid).length) ∧ (0 ≤ kid ∧ kid < (cutT l kid).length) ∧ ((cutT l kid).getD up.toNat nodeTy.dflt).2.2.2.2.2.2.length ≤ 1000 := by
    intro h
    simp only [Bool.or_eq_false_iff, Bool.not_eq_false'] at h
    have h1 := isT_iff.1 h.1.1.1
    have h2 := isT_iff.1 h.1.1.2
    rw [cutT_len]
    exact ⟨h1, h2, (hsm.2 up.toNat (by rw [cutT_len]; omega)).2⟩
  repeat' ((conv => whnf);first|(with_reducible first|rfl|exact absTF|exact absFT)|exact True.intro|intro _|refine And.intro ?_ ?_|refine Fin.mk ?_|refine W1 rfl ?_ ?_|refine W2 rfl ?_ ?_|refine W3 rfl ?_ ?_|refine W4 ?_ ?_|refine W5 rfl ?_ ?_|refine W6 ?_ ?_|refine AppN.mk ?_|refine X1 (W1 rfl ?_ ?_)|refine X1 (W2 rfl ?_ ?_)|refine X2 (W7 rfl ?_ ?_)|refine X3 (W7 rfl ?_ ?_)|refine X4 (W7 rfl ?_ ?_)|refine X5 (W7 rfl ?_ ?_))
  all_goals (try (conv => whnf))
  all_goals (try first|exact Ob.mk (u8_bnd _)|(refine Ob.mk ?_;first|exact True.intro|assumption|omega|(try simp only [ZA,ZB,ZC,ZD,ZE,ZF,ZG,ZH,ZI,ZJ,ZK,ZL,ZM,ZN,ZO,Int.toNat_natCast,UInt8.ofNat_toNat,cast_eq] at *;omega)))
  all_goals (try first|(show (_:Int) = _;omega)|(show tupSV _ = _;with_unfolding_all rfl)|((first|show (_:Nat) ≤ _|show (_:Nat) ≤ _ ∧ (_:Nat) ≤ _|show (_:Int) ≤ _ ∧ (_:Int) ≤ _ ∧ (_:Int) ≤ _ ∧ (_:Int) ≤ _);(simp <;> omega)))
  all_goals (first
    | omega
    | (rename_i h; obtain ⟨g1, g2, g3⟩ := hu h; first
        | exact g1
        | exact g2
        | omega
        | exact Nat.le_trans g3 (by omega)
        | (rw [List.length_set]; first | exact g2 | omega)
        | (refine ⟨?_, ?_, Nat.le_trans g3 (by omega)⟩ <;> rw [min_of] <;> omega))
    | skip)
  · rename_i h; rw [putT, if_pos h]
  · rename_i h
    rw [putT, if_neg (by rw [h]; exact Bool.false_ne_true)]
    rfl
end Go.Vc

namespace Go.Vc
open Go.Proofs
set_option maxRecDepth 10000
set_option maxHeartbeats 2000000
def modeL (ins : List UInt8) (hd : Int) : Int := bif (toldL ins hd).2 then (toldL ins hd).1 else 5
instance u43 (t : List NodeD) (x : Int) (md bk lx fm hd : Int) (fo sk : Bool) (ins : List UInt8) :
  FnM BB 37 [.loc 0 0]
   [(0, .box [.own 1, .own 2, .nils, .int .i64 md, .int .i64 bk, .int .i64 lx, .int .i64 fm, .int .i64 hd, .bool fo, .bool sk, .str ins]), (1, .own nodeTy t), (2, .own intTy [x])] ((0 ≤ x ∧ x < t.length) ∧ ins ≠ [])
   (.tup [])
   [(0, .box [.own 1, .own 2, .nils, .int .i64 (modeL ins hd), .int .i64 bk, .int .i64 lx, .int .i64 fm, .int .i64 hd, .bool fo, .bool sk, .str ins]), (1, .own nodeTy t), (2, .own intTy [x])] := by
 refine FnM.intro (N := 66) [0, 2, 3, 4, 5, 6, 14, 40, 48, 58] [(3, [0, 0, 0, 0, 0, 0, 0, 0, 0, 0, 0, 0, 0, 0, 6, 6])] 3 Tryz.call37 Tryz.func37 rfl rfl (by kernel_rfl) (fun hpre => ?_)
 obtain ⟨hp1, hp2⟩ := hpre
 have hne : (ins == []) = false := beq_eq_false_iff_ne.2 hp2
 repeat' ((conv => whnf);first|(with_reducible first|rfl|exact absTF|exact absFT)|exact True.intro|intro _|refine And.intro ?_ ?_|refine Fin.mk ?_|refine W1 rfl ?_ ?_|refine W2 rfl ?_ ?_|refine W3 rfl ?_ ?_|refine W4 ?_ ?_|refine W5 rfl ?_ ?_|refine W6 ?_ ?_|refine AppN.mk ?_|refine X1 (W1 rfl ?_ ?_)|refine X1 (W2 rfl ?_ ?_)|refine X2 (W7 rfl ?_ ?_)|refine X3 (W7 rfl ?_ ?_)|refine X4 (W7 rfl ?_ ?_)|refine X5 (W7 rfl ?_ ?_))
 all_goals (try (conv => whnf))
 all_goals (try first|exact Ob.mk (u8_bnd _)|(refine Ob.mk ?_;first|exact True.intro|assumption|omega|(try simp only [ZA,ZB,ZC,ZD,ZE,ZF,ZG,ZH,ZI,ZJ,ZK,ZL,ZM,ZN,ZO,Int.toNat_natCast,UInt8.ofNat_toNat,cast_eq] at *;omega)))
 all_goals (try first|(show (_:Int) = _;omega)|(show tupSV _ = _;with_unfolding_all rfl)|((first|show (_:Nat) ≤ _|show (_:Nat) ≤ _ ∧ (_:Nat) ≤ _|show (_:Int) ≤ _ ∧ (_:Int) ≤ _ ∧ (_:Int) ≤ _ ∧ (_:Int) ≤ _);(simp <;> omega)))
 refine LoopStop.mk (α := Nat) (fun k => [(2, .int .i64 (0 - (k : Int)))]) (fun _ => []) 60 (fun k => k ≤ 1 ∧ (k = 1 → (toldL ins hd).2 = false)) (fun k => 1 - k) 0 (by simp) ?_ (fun k hk => ?_)
 ·repeat' ((conv => whnf);first|(with_reducible first|rfl|exact absTF|exact absFT)|exact True.intro|intro _|refine And.intro ?_ ?_|refine Fin.mk ?_|refine W1 rfl ?_ ?_|refine W2 rfl ?_ ?_|refine W3 rfl ?_ ?_|refine W4 ?_ ?_|refine W5 rfl ?_ ?_|refine W6 ?_ ?_|refine AppN.mk ?_|refine X1 (W1 rfl ?_ ?_)|refine X1 (W2 rfl ?_ ?_)|refine X2 (W7 rfl ?_ ?_)|refine X3 (W7 rfl ?_ ?_)|refine X4 (W7 rfl ?_ ?_)|refine X5 (W7 rfl ?_ ?_))
  all_goals (try (conv => whnf))
  all_goals (try first|exact Ob.mk (u8_bnd _)|(refine Ob.mk ?_;first|exact True.intro|assumption|omega|(try simp only [ZA,ZB,ZC,ZD,ZE,ZF,ZG,ZH,ZI,ZJ,ZK,ZL,ZM,ZN,ZO,Int.toNat_natCast,UInt8.ofNat_toNat,cast_eq] at *;omega)))
  all_goals (try first|(show (_:Int) = _;omega)|(show tupSV _ = _;with_unfolding_all rfl)|((first|show (_:Nat) ≤ _|show (_:Nat) ≤ _ ∧ (_:Nat) ≤ _|show (_:Int) ≤ _ ∧ (_:Int) ≤ _ ∧ (_:Int) ≤ _ ∧ (_:Int) ≤ _);(simp <;> omega)))
  all_goals (try rfl)
 ·obtain ⟨hk, h1⟩ := hk
  obtain rfl | rfl : k = 0 ∨ k = 1 := by omega
  ·have hlast : ((0 : Int) - ((0 : Nat) : Int) == 0 && !ins == []) = true := by rw [hne]; rfl
   repeat' ((conv => whnf);first|(with_reducible first|rfl|exact absTF|exact absFT)|exact True.intro|intro _|refine And.intro ?_ ?_|refine Fin.mk ?_|refine W1 rfl ?_ ?_|refine W2 rfl ?_ ?_|refine W3 rfl ?_ ?_|refine W4 ?_ ?_|refine W5 rfl ?_ ?_|refine W6 ?_ ?_|refine AppN.mk ?_|refine X1 (W1 rfl ?_ ?_)|refine X1 (W2 rfl ?_ ?_)|refine X2 (W7 rfl ?_ ?_)|refine X3 (W7 rfl ?_ ?_)|refine X4 (W7 rfl ?_ ?_)|refine X5 (W7 rfl ?_ ?_))
   all_goals (try (conv => whnf))
   all_goals (try first|exact Ob.mk (u8_bnd _)|(refine Ob.mk ?_;first|exact True.intro|assumption|omega|(try simp only [ZA,ZB,ZC,ZD,ZE,ZF,ZG,ZH,ZI,ZJ,ZK,ZL,ZM,ZN,ZO,Int.toNat_natCast,UInt8.ofNat_toNat,cast_eq] at *;omega)))
   all_goals (try first|(show (_:Int) = _;omega)|(show tupSV _ = _;with_unfolding_all rfl)|((first|show (_:Nat) ≤ _|show (_:Nat) ≤ _ ∧ (_:Nat) ≤ _|show (_:Int) ≤ _ ∧ (_:Int) ≤ _ ∧ (_:Int) ≤ _ ∧ (_:Int) ≤ _);(simp <;> omega)))
   all_goals (try (exact ⟨by decide, by decide⟩))
   all_goals (try (exact hlast))
   all_goals (try (exfalso; rename_i h; revert h; decide))
   all_goals (try (exfalso; have h : ((0 : Int) - ((0 : Nat) : Int) == 0 && !ins == []) = false := ‹_›; rw [hlast] at h; cases h))
   all_goals (try (exact hp1))
   all_goals (try (exact ⟨by decide, by simp⟩))
   ·rename_i h
    rw [modeL, h]; rfl
   ·rename_i h
    refine Rnd.mk ⟨1, ⟨by omega, fun _ => h⟩, by omega, ?_, ?_, ?_⟩
    repeat' ((conv => whnf);first|(with_reducible first|rfl|exact absTF|exact absFT)|exact True.intro|intro _|refine And.intro ?_ ?_|refine Fin.mk ?_|refine W1 rfl ?_ ?_|refine W2 rfl ?_ ?_|refine W3 rfl ?_ ?_|refine W4 ?_ ?_|refine W5 rfl ?_ ?_|refine W6 ?_ ?_|refine AppN.mk ?_|refine X1 (W1 rfl ?_ ?_)|refine X1 (W2 rfl ?_ ?_)|refine X2 (W7 rfl ?_ ?_)|refine X3 (W7 rfl ?_ ?_)|refine X4 (W7 rfl ?_ ?_)|refine X5 (W7 rfl ?_ ?_))
    all_goals (try (conv => whnf))
    all_goals (try first|exact Ob.mk (u8_bnd _)|(refine Ob.mk ?_;first|exact True.intro|assumption|omega|(try simp only [ZA,ZB,ZC,ZD,ZE,ZF,ZG,ZH,ZI,ZJ,ZK,ZL,ZM,ZN,ZO,Int.toNat_natCast,UInt8.ofNat_toNat,cast_eq] at *;omega)))
    all_goals (try first|(show (_:Int) = _;omega)|(show tupSV _ = _;with_unfolding_all rfl)|((first|show (_:Nat) ≤ _|show (_:Nat) ≤ _ ∧ (_:Nat) ≤ _|show (_:Int) ≤ _ ∧ (_:Int) ≤ _ ∧ (_:Int) ≤ _ ∧ (_:Int) ≤ _);(simp <;> omega)))
    all_goals (try rfl)
  ·repeat' ((conv => whnf);first|(with_reducible first|rfl|exact absTF|exact absFT)|exact True.intro|intro _|refine And.intro ?_ ?_|refine Fin.mk ?_|refine W1 rfl ?_ ?_|refine W2 rfl ?_ ?_|refine W3 rfl ?_ ?_|refine W4 ?_ ?_|refine W5 rfl ?_ ?_|refine W6 ?_ ?_|refine AppN.mk ?_|refine X1 (W1 rfl ?_ ?_)|refine X1 (W2 rfl ?_ ?_)|refine X2 (W7 rfl ?_ ?_)|refine X3 (W7 rfl ?_ ?_)|refine X4 (W7 rfl ?_ ?_)|refine X5 (W7 rfl ?_ ?_))
   all_goals (try (conv => whnf))
   all_goals (try first|exact Ob.mk (u8_bnd _)|(refine Ob.mk ?_;first|exact True.intro|assumption|omega|(try simp only [ZA,ZB,ZC,ZD,ZE,ZF,ZG,ZH,ZI,ZJ,ZK,ZL,ZM,ZN,ZO,Int.toNat_natCast,UInt8.ofNat_toNat,cast_eq] at *;omega)))
   all_goals (try first|(show (_:Int) = _;omega)|(show tupSV _ = _;with_unfolding_all rfl)|((first|show (_:Nat) ≤ _|show (_:Nat) ≤ _ ∧ (_:Nat) ≤ _|show (_:Int) ≤ _ ∧ (_:Int) ≤ _ ∧ (_:Int) ≤ _ ∧ (_:Int) ≤ _);(simp <;> omega)))
   all_goals (try (exfalso; have h : decide ((0 : Int) - ((1 : Nat) : Int) ≥ 0) = true := ‹_›; revert h; decide))
   all_goals (rw [modeL, h1 rfl]; rfl)
end Go.Vc

namespace Go.Vc
open Go.Proofs
set_option maxRecDepth 10000
set_option maxHeartbeats 2000000
instance sf12n (md bk lx fm hd : Int) (fo sk : Bool) (ins : List UInt8) (l : List NodeD) (k s : Int) (nm : List UInt8) (d : List UInt8) (up : Int) :
  FnM BB 34 [.loc 0 0, .agg [.int .i64 k, .int .i64 s, .str nm, .nils, .str d, .int .i64 up, .nils]] [(0, .box [.own 1, .nils, .nils, .int .i64 md, .int .i64 bk, .int .i64 lx, .int .i64 fm, .int .i64 hd, .bool fo, .bool sk, .str ins]), (1, .own nodeTy l)] (l.length ≤ 100000 ∧ ([] : List AttrD).length ≤ 100000)
   (.int .i64 l.length) [(0, .box [.own 1, .nils, .nils, .int .i64 md, .int .i64 bk, .int .i64 lx, .int .i64 fm, .int .i64 hd, .bool fo, .bool sk, .str ins]), (1, .own nodeTy (addT l (k, s, nm, [], d, up, [])))] :=
 FnM.wk (sf12 md bk lx fm hd fo sk ins l k s nm [] d up []) fun r β vs h => by
  refine ⟨h.1, fun i sv v h1 h2 => ?_⟩
  match i, h1 with
  | 0, h1 => cases h1; exact h.2 0 _ v rfl h2
  | 1, h1 =>
   cases h1
   obtain ⟨cs, rfl, hc⟩ := (h.2 1 _ v rfl h2).aggL_inv
   refine .aggL ⟨hc.1, fun j sv u q1 q2 => ?_⟩
   match j, q1 with
   | 0, q1 => cases q1; exact hc.2 0 _ u rfl q2
   | 1, q1 => cases q1; exact hc.2 1 _ u rfl q2
   | 2, q1 => cases q1; exact hc.2 2 _ u rfl q2
   | 3, q1 => cases q1; exact nils_rd (hc.2 3 _ u rfl q2)
   | 4, q1 => cases q1; exact hc.2 4 _ u rfl q2
   | 5, q1 => cases q1; exact hc.2 5 _ u rfl q2
   | 6, q1 => cases q1; exact nils_rd (hc.2 6 _ u rfl q2)
def htmlN : NodeD := ((1 : Int), (0 : Int), wHtml, ([] : List AttrD), ([] : List UInt8), (0 : Int), ([] : List Int))
def newT : List NodeD := putT (addT [rootN] htmlN) 0 0 1
theorem newT_len : newT.length = 2 := by decide
theorem newT_sm : smallT (addT [rootN] htmlN) = true := by decide
instance u41 (ins : List UInt8) :
  FnM BB 8 [.str ins] [] (ins ≠ [] ∧ ins.length ≤ 60) (.loc 0 0)
   [(0, .box [.own 1, .own 2, .nils, .int .i64 (modeL ins 0), .int .i64 0, .int .i64 (W.kLexed ins), .int .i64 0, .int .i64 0, .bool false, .bool false, .str ins]), (1, .own nodeTy newT), (2, .own intTy [1])] := by
 refine FnM.intro (N := 40) [0, 2, 3, 4, 10] [] 3 Tryz.call8 Tryz.func8 rfl rfl (by kernel_rfl) (fun hpre => ?_)
 obtain ⟨hp1, hp2⟩ := hpre
 repeat' ((conv => whnf);first|(with_reducible first|rfl|exact absTF|exact absFT)|exact True.intro|intro _|refine And.intro ?_ ?_|refine Fin.mk ?_|refine W1 rfl ?_ ?_|refine W2 rfl ?_ ?_|refine W3 rfl ?_ ?_|refine W4 ?_ ?_|refine W5 rfl ?_ ?_|refine W6 ?_ ?_|refine AppN.mk ?_|refine X1 (W1 rfl ?_ ?_)|refine X1 (W2 rfl ?_ ?_)|refine X2 (W7 rfl ?_ ?_)|refine X3 (W7 rfl ?_ ?_)|refine X4 (W7 rfl ?_ ?_)|refine X5 (W7 rfl ?_ ?_))
 all_goals (try (conv => whnf))
 all_goals (try first|exact Ob.mk (u8_bnd _)|(refine Ob.mk ?_;first|exact True.intro|assumption|omega|(try simp only [ZA,ZB,ZC,ZD,ZE,ZF,ZG,ZH,ZI,ZJ,ZK,ZL,ZM,ZN,ZO,Int.toNat_natCast,UInt8.ofNat_toNat,cast_eq] at *;omega)))
 all_goals (try first|(show (_:Int) = _;omega)|(show tupSV _ = _;with_unfolding_all rfl)|((first|show (_:Nat) ≤ _|show (_:Nat) ≤ _ ∧ (_:Nat) ≤ _|show (_:Int) ≤ _ ∧ (_:Int) ≤ _ ∧ (_:Int) ≤ _ ∧ (_:Int) ≤ _);(simp <;> omega)))
 all_goals (try (exfalso; exact hp1 (by simpa using ‹(ins == []) = true›)))
 all_goals (try (exact newT_sm))
 all_goals (try rfl)
 all_goals (try (exact ⟨by decide, by decide⟩))
 all_goals (try (exact ⟨⟨by decide, by decide⟩, hp1⟩))
 all_goals trace_state
end Go.Vc

namespace Go.Vc
open Go.Proofs
set_option maxRecDepth 10000
set_option maxHeartbeats 4000000
theorem take_one (l : List Int) (i : Nat) (h : i < l.length) : l.take (i + 1) = l.take i ++ [l.getD i 0] := by
 rw [List.take_succ_eq_append_getElem h]; simp [List.getD, List.getElem?_eq_getElem h]
def delA (l : List Int) (a i : Nat) : List Int := (l.take a).take i ++ (l.take i).drop (a + 1)
theorem delA_step (l : List Int) (a i : Nat) (h : i < l.length) (ha : a ≤ l.length) : delA l a (i + 1) = if i = a then delA l a i else delA l a i ++ [l.getD i 0] := by
 unfold delA
 rcases Nat.lt_trichotomy i a with q | q | q
 ·rw [if_neg (by omega), List.take_take, List.take_take, Nat.min_eq_left (by omega), Nat.min_eq_left (by omega), List.drop_eq_nil_of_le (by rw [List.length_take]; omega), List.drop_eq_nil_of_le (by rw [List.length_take]; omega), List.append_nil, List.append_nil]
  exact take_one l i h
 ·subst q
  rw [if_pos rfl, List.take_take, List.take_take, Nat.min_eq_right (by omega), Nat.min_self, List.drop_eq_nil_of_le (by rw [List.length_take]; omega), List.drop_eq_nil_of_le (by rw [List.length_take]; omega)]
 ·rw [if_neg (by omega), List.take_take, List.take_take, Nat.min_eq_right (by omega), Nat.min_eq_right (by omega), take_one l i h, List.drop_append_of_le_length (by rw [List.length_take]; omega), List.append_assoc]
theorem delA_end (l : List Int) (a : Nat) (h : a ≤ l.length) : delA l a l.length = l.take a ++ l.drop (a + 1) := by
 unfold delA
 rw [List.take_take, List.take_length, Nat.min_eq_right h]
theorem delA_len (l : List Int) (a i : Nat) : (delA l a i).length ≤ i + i := by
 unfold delA; simp only [List.length_append, List.length_take, List.length_drop]; omega
def insA (l : List Int) (a : Nat) (n : Int) (i : Nat) : List Int := (l.take a).take i ++ ((if a < i then [n] else []) ++ (l.take i).drop a)
theorem insA_step (l : List Int) (a : Nat) (n : Int) (i : Nat) (h : i ≤ l.length) (ha : a ≤ l.length) : insA l a n (i + 1) = (if i = a then insA l a n i ++ [n] else insA l a n i) ++ (if i < l.length then [l.getD i 0] else []) := by
 unfold insA
 rcases Nat.lt_trichotomy i a with q | q | q
 ·rw [if_neg (show ¬ a < i + 1 by omega), if_neg (show ¬ a < i by omega), if_neg (show ¬ i = a by omega), if_pos (by omega), List.take_take, List.take_take, Nat.min_eq_left (by omega), Nat.min_eq_left (by omega), List.drop_eq_nil_of_le (by rw [List.length_take]; omega), List.drop_eq_nil_of_le (by rw [List.length_take]; omega)]
  simp only [List.append_nil]
  exact take_one l i (by omega)
 ·subst q
  have hdr : (l.take i).drop i = [] := List.drop_eq_nil_of_le (by rw [List.length_take]; omega)
  rw [if_pos (show i < i + 1 by omega), if_neg (show ¬ i < i by omega), if_pos rfl, List.take_take, List.take_take, Nat.min_eq_right (by omega), Nat.min_self, hdr]
  simp only [List.append_nil, List.append_assoc]
  congr 2
  by_cases hl : i < l.length
  ·rw [if_pos hl, take_one l i hl, List.drop_append_of_le_length (by rw [List.length_take]; omega), List.drop_eq_nil_of_le (by rw [List.length_take]; omega)]; rfl
  ·rw [if_neg hl, List.drop_eq_nil_of_le (by rw [List.length_take]; omega)]
 ·rw [if_pos (show a < i + 1 by omega), if_pos (show a < i by omega), if_neg (show ¬ i = a by omega), List.take_take, List.take_take, Nat.min_eq_right (by omega), Nat.min_eq_right (by omega)]
  by_cases hl : i < l.length
  ·rw [if_pos hl, take_one l i hl, List.drop_append_of_le_length (by rw [List.length_take]; omega)]
   simp only [List.append_assoc]
  ·rw [if_neg hl, List.append_nil, List.take_of_length_le (l := l) (i := i + 1) (by omega), List.take_of_length_le (l := l) (i := i) (by omega)]
theorem insA_end (l : List Int) (a : Nat) (n : Int) (h : a ≤ l.length) : insA l a n (l.length + 1) = l.take a ++ n :: l.drop a := by
 unfold insA
 rw [if_pos (by omega), List.take_take, List.take_of_length_le (l := l) (i := l.length + 1) (by omega), Nat.min_eq_right (by omega)]
 rfl
theorem insA_len (l : List Int) (a : Nat) (n : Int) (i : Nat) : (insA l a n i).length ≤ i + 1 + i := by
 unfold insA; simp only [List.length_append, List.length_take, List.length_drop]; split <;> simp <;> omega
instance hPlace (l : List NodeD) (kid : Int) : Fn BB 105 [.agg [.rd nodeTy l], .int .i64 kid] True (.int .i64 (placeT l kid)) := by
 refine Fn.intro (N := 46) [0, 1, 2, 4, 5, 6, 21, 36, 44] [(1, [1, 0, 1, 1, 1, 1, 1, 1, 1, 1, 1, 1, 3, 3, 3]), (3, [0, 1, 0, 1, 0, 1, 1, 1, 3, 3, 3, 3])] Tryz.call105 Tryz.func105 rfl rfl (by kernel_rfl) (fun hpre => ?_)
 have p0 : (!isT l kid || !isT l (nd l kid).up) = true → (-1 : Int) = placeT l kid := fun h => by
  have h := not_or_true h
  unfold placeT; rw [h]; rfl
 have p1 : (!isT l kid || !isT l (nd l kid).up) = false → (0 ≤ kid ∧ kid < l.length) ∧ (0 ≤ (nd l kid).up ∧ (nd l kid).up < l.length) ∧ placeT l kid = ixOf (nd l (nd l kid).up).kids kid := fun h => by
  obtain ⟨h1, h2⟩ := not_or_false h
  refine ⟨isT_iff.1 h1, isT_iff.1 h2, ?_⟩
  unfold placeT; rw [h1, h2]; rfl
 repeat' ((conv => whnf);first|(with_reducible first|rfl|exact absTF|exact absFT)|exact True.intro|intro _|refine And.intro ?_ ?_|refine Fin.mk ?_|refine W1 rfl ?_ ?_|refine W2 rfl ?_ ?_|refine W3 rfl ?_ ?_|refine W4 ?_ ?_|refine W5 rfl ?_ ?_|refine W6 ?_ ?_|refine AppN.mk ?_|refine X1 (W1 rfl ?_ ?_)|refine X1 (W2 rfl ?_ ?_)|refine X2 (W7 rfl ?_ ?_)|refine X3 (W7 rfl ?_ ?_)|refine X4 (W7 rfl ?_ ?_)|refine X5 (W7 rfl ?_ ?_))
 all_goals (try (conv => whnf))
 all_goals (try first|exact Ob.mk (u8_bnd _)|(refine Ob.mk ?_;first|exact True.intro|assumption|omega|(try simp only [ZA,ZB,ZC,ZD,ZE,ZF,ZG,ZH,ZI,ZJ,ZK,ZL,ZM,ZN,ZO,Int.toNat_natCast,UInt8.ofNat_toNat,cast_eq] at *;omega)))
 all_goals (try first|(show (_:Int) = _;omega)|(show tupSV _ = _;with_unfolding_all rfl)|((first|show (_:Nat) ≤ _|show (_:Nat) ≤ _ ∧ (_:Nat) ≤ _|show (_:Int) ≤ _ ∧ (_:Int) ≤ _ ∧ (_:Int) ≤ _ ∧ (_:Int) ≤ _);(simp <;> omega)))
 all_goals (try (have q := p0 ‹(!isT l kid || !isT l (nd l kid).up) = true›))
 all_goals (try (have q := p1 ‹(!isT l kid || !isT l (nd l kid).up) = false›; obtain ⟨q1, q2, q3⟩ := q))
 all_goals (first | exact q | exact q1 | exact q2 | (exact isT_iff.1 (by simp_all; done)) | skip)
 generalize hks : (nd l (nd l kid).up).kids = ks at *
 have hks' : (l.getD (l.getD kid.toNat nodeTy.dflt).2.2.2.2.2.1.toNat nodeTy.dflt).2.2.2.2.2.2 = ks := hks
 try rw [hks']
 refine LoopStop.mk (α := Nat) (fun i => [(6, .int .i64 i)]) (fun _ => []) 20 (fun i => i ≤ ks.length ∧ (ks.take i).contains kid = false) (fun i => ks.length - i) 0 (by simp) ?_ (fun i hi => ?_)
 ·repeat' ((conv => whnf);first|(with_reducible first|rfl|exact absTF|exact absFT)|exact True.intro|intro _|refine And.intro ?_ ?_|refine Fin.mk ?_|refine W1 rfl ?_ ?_|refine W2 rfl ?_ ?_|refine W3 rfl ?_ ?_|refine W4 ?_ ?_|refine W5 rfl ?_ ?_|refine W6 ?_ ?_|refine AppN.mk ?_|refine X1 (W1 rfl ?_ ?_)|refine X1 (W2 rfl ?_ ?_)|refine X2 (W7 rfl ?_ ?_)|refine X3 (W7 rfl ?_ ?_)|refine X4 (W7 rfl ?_ ?_)|refine X5 (W7 rfl ?_ ?_))
  all_goals (try (conv => whnf))
  all_goals (try first|exact Ob.mk (u8_bnd _)|(refine Ob.mk ?_;first|exact True.intro|assumption|omega|(try simp only [ZA,ZB,ZC,ZD,ZE,ZF,ZG,ZH,ZI,ZJ,ZK,ZL,ZM,ZN,ZO,Int.toNat_natCast,UInt8.ofNat_toNat,cast_eq] at *;omega)))
  all_goals (try first|(show (_:Int) = _;omega)|(show tupSV _ = _;with_unfolding_all rfl)|((first|show (_:Nat) ≤ _|show (_:Nat) ≤ _ ∧ (_:Nat) ≤ _|show (_:Int) ≤ _ ∧ (_:Int) ≤ _ ∧ (_:Int) ≤ _ ∧ (_:Int) ≤ _);(simp <;> omega)))
  all_goals (first | rfl | trace_state)
 ·obtain ⟨hi, ha⟩ := hi
  repeat' ((conv => whnf);first|(with_reducible first|rfl|exact absTF|exact absFT)|exact True.intro|intro _|refine And.intro ?_ ?_|refine Fin.mk ?_|refine W1 rfl ?_ ?_|refine W2 rfl ?_ ?_|refine W3 rfl ?_ ?_|refine W4 ?_ ?_|refine W5 rfl ?_ ?_|refine W6 ?_ ?_|refine AppN.mk ?_|refine X1 (W1 rfl ?_ ?_)|refine X1 (W2 rfl ?_ ?_)|refine X2 (W7 rfl ?_ ?_)|refine X3 (W7 rfl ?_ ?_)|refine X4 (W7 rfl ?_ ?_)|refine X5 (W7 rfl ?_ ?_))
  all_goals (try (conv => whnf))
  all_goals (try first|exact Ob.mk (u8_bnd _)|(refine Ob.mk ?_;first|exact True.intro|assumption|omega|(try simp only [ZA,ZB,ZC,ZD,ZE,ZF,ZG,ZH,ZI,ZJ,ZK,ZL,ZM,ZN,ZO,Int.toNat_natCast,UInt8.ofNat_toNat,cast_eq] at *;omega)))
  all_goals (try first|(show (_:Int) = _;omega)|(show tupSV _ = _;with_unfolding_all rfl)|((first|show (_:Nat) ≤ _|show (_:Nat) ≤ _ ∧ (_:Nat) ≤ _|show (_:Int) ≤ _ ∧ (_:Int) ≤ _ ∧ (_:Int) ≤ _ ∧ (_:Int) ≤ _);(simp <;> omega)))
  all_goals (try (have b1 := of_decide_eq_true ‹decide ((i : Int) < (ks.length : Int)) = true›))
  all_goals (try (have b1 := of_decide_eq_false ‹decide ((i : Int) < (ks.length : Int)) = false›))
  all_goals (try simp only [Int.toNat_natCast] at *)
  ·rw [q3, ixOf_at (i := i) (by omega) ha (eq_of_beq (show (ks.getD i 0 == kid) = true from ‹_›)).symm]
  ·have h : (ks.getD i 0 == kid) = false := ‹_›
   refine Rnd.mk ⟨i + 1, ⟨by omega, by rw [take_has ks i kid (by omega), ha, h]; rfl⟩, by omega, ?_⟩
   repeat' ((conv => whnf);first|(with_reducible first|rfl|exact absTF|exact absFT)|exact True.intro|intro _|refine And.intro ?_ ?_|refine Fin.mk ?_|refine W1 rfl ?_ ?_|refine W2 rfl ?_ ?_|refine W3 rfl ?_ ?_|refine W4 ?_ ?_|refine W5 rfl ?_ ?_|refine W6 ?_ ?_|refine AppN.mk ?_|refine X1 (W1 rfl ?_ ?_)|refine X1 (W2 rfl ?_ ?_)|refine X2 (W7 rfl ?_ ?_)|refine X3 (W7 rfl ?_ ?_)|refine X4 (W7 rfl ?_ ?_)|refine X5 (W7 rfl ?_ ?_))
   all_goals (try (conv => whnf))
   all_goals (try first|exact Ob.mk (u8_bnd _)|(refine Ob.mk ?_;first|exact True.intro|assumption|omega|(try simp only [ZA,ZB,ZC,ZD,ZE,ZF,ZG,ZH,ZI,ZJ,ZK,ZL,ZM,ZN,ZO,Int.toNat_natCast,UInt8.ofNat_toNat,cast_eq] at *;omega)))
   all_goals (try first|(show (_:Int) = _;omega)|(show tupSV _ = _;with_unfolding_all rfl)|((first|show (_:Nat) ≤ _|show (_:Nat) ≤ _ ∧ (_:Nat) ≤ _|show (_:Int) ≤ _ ∧ (_:Int) ≤ _ ∧ (_:Int) ≤ _ ∧ (_:Int) ≤ _);(simp <;> omega)))
   all_goals (first | rfl | omega | trace_state)
  ·obtain rfl : i = ks.length := by omega
   rw [q3, ixOf_none (by rw [List.take_length] at ha; exact ha)]
instance hWith (l : List Int) (at_ n : Int) : Fn BB 79 [.rd intTy l, .int .i64 at_, .int .i64 n] (0 ≤ at_ ∧ at_ ≤ l.length ∧ l.length ≤ 100000) (.rd intTy (l.take at_.toNat ++ n :: l.drop at_.toNat)) := by
 refine Fn.intro (N := 34) [0, 1, 2, 6, 7, 8, 12, 17, 25] [] Tryz.call79 Tryz.func79 rfl rfl (by kernel_rfl) (fun hpre => ?_)
 obtain ⟨p1, p2, p3⟩ := hpre
 obtain ⟨a, rfl⟩ := Int.eq_ofNat_of_zero_le p1
 have hen := insA_end l a n (by omega)
 rw [Int.toNat_natCast]
 repeat' ((conv => whnf);first|(with_reducible first|rfl|exact absTF|exact absFT)|exact True.intro|intro _|refine And.intro ?_ ?_|refine Fin.mk ?_|refine W1 rfl ?_ ?_|refine W2 rfl ?_ ?_|refine W3 rfl ?_ ?_|refine W4 ?_ ?_|refine W5 rfl ?_ ?_|refine W6 ?_ ?_|refine AppN.mk ?_|refine X1 (W1 rfl ?_ ?_)|refine X1 (W2 rfl ?_ ?_)|refine X2 (W7 rfl ?_ ?_)|refine X3 (W7 rfl ?_ ?_)|refine X4 (W7 rfl ?_ ?_)|refine X5 (W7 rfl ?_ ?_))
 all_goals (try (conv => whnf))
 all_goals (try first|exact Ob.mk (u8_bnd _)|(refine Ob.mk ?_;first|exact True.intro|assumption|omega|(try simp only [ZA,ZB,ZC,ZD,ZE,ZF,ZG,ZH,ZI,ZJ,ZK,ZL,ZM,ZN,ZO,Int.toNat_natCast,UInt8.ofNat_toNat,cast_eq] at *;omega)))
 all_goals (try first|(show (_:Int) = _;omega)|(show tupSV _ = _;with_unfolding_all rfl)|((first|show (_:Nat) ≤ _|show (_:Nat) ≤ _ ∧ (_:Nat) ≤ _|show (_:Int) ≤ _ ∧ (_:Int) ≤ _ ∧ (_:Int) ≤ _ ∧ (_:Int) ≤ _);(simp <;> omega)))
 refine LoopStop.mk (α := Nat) (fun i => [(8, .int .i64 i), (7, .own 20)]) (fun i => [(20, .own intTy (insA l a n i))]) 30 (fun i => i ≤ l.length + 1) (fun i => l.length + 1 - i) 0 (by simp) ?_ (fun i hi => ?_)
 ·repeat' ((conv => whnf);first|(with_reducible first|rfl|exact absTF|exact absFT)|exact True.intro|intro _|refine And.intro ?_ ?_|refine Fin.mk ?_|refine W1 rfl ?_ ?_|refine W2 rfl ?_ ?_|refine W3 rfl ?_ ?_|refine W4 ?_ ?_|refine W5 rfl ?_ ?_|refine W6 ?_ ?_|refine AppN.mk ?_|refine X1 (W1 rfl ?_ ?_)|refine X1 (W2 rfl ?_ ?_)|refine X2 (W7 rfl ?_ ?_)|refine X3 (W7 rfl ?_ ?_)|refine X4 (W7 rfl ?_ ?_)|refine X5 (W7 rfl ?_ ?_))
  all_goals (try (conv => whnf))
  all_goals (try first|exact Ob.mk (u8_bnd _)|(refine Ob.mk ?_;first|exact True.intro|assumption|omega|(try simp only [ZA,ZB,ZC,ZD,ZE,ZF,ZG,ZH,ZI,ZJ,ZK,ZL,ZM,ZN,ZO,Int.toNat_natCast,UInt8.ofNat_toNat,cast_eq] at *;omega)))
  all_goals (try first|(show (_:Int) = _;omega)|(show tupSV _ = _;with_unfolding_all rfl)|((first|show (_:Nat) ≤ _|show (_:Nat) ≤ _ ∧ (_:Nat) ≤ _|show (_:Int) ≤ _ ∧ (_:Int) ≤ _ ∧ (_:Int) ≤ _ ∧ (_:Int) ≤ _);(simp <;> omega)))
  all_goals (first | rfl | (simp [insA]; done) | trace_state)
 ·have hl := insA_len l a n i
  have hst := insA_step l a n i
  repeat' ((conv => whnf);first|(with_reducible first|rfl|exact absTF|exact absFT)|exact True.intro|intro _|refine And.intro ?_ ?_|refine Fin.mk ?_|refine W1 rfl ?_ ?_|refine W2 rfl ?_ ?_|refine W3 rfl ?_ ?_|refine W4 ?_ ?_|refine W5 rfl ?_ ?_|refine W6 ?_ ?_|refine AppN.mk ?_|refine X1 (W1 rfl ?_ ?_)|refine X1 (W2 rfl ?_ ?_)|refine X2 (W7 rfl ?_ ?_)|refine X3 (W7 rfl ?_ ?_)|refine X4 (W7 rfl ?_ ?_)|refine X5 (W7 rfl ?_ ?_))
  all_goals (try (conv => whnf))
  all_goals (try first|exact Ob.mk (u8_bnd _)|(refine Ob.mk ?_;first|exact True.intro|assumption|omega|(try simp only [ZA,ZB,ZC,ZD,ZE,ZF,ZG,ZH,ZI,ZJ,ZK,ZL,ZM,ZN,ZO,Int.toNat_natCast,UInt8.ofNat_toNat,cast_eq] at *;omega)))
  all_goals (try first|(show (_:Int) = _;omega)|(show tupSV _ = _;with_unfolding_all rfl)|((first|show (_:Nat) ≤ _|show (_:Nat) ≤ _ ∧ (_:Nat) ≤ _|show (_:Int) ≤ _ ∧ (_:Int) ≤ _ ∧ (_:Int) ≤ _ ∧ (_:Int) ≤ _);(simp <;> omega)))
  all_goals (try (have b := of_decide_eq_true ‹decide ((i : Int) ≤ (l.length : Int)) = true›; have hs := hst (by omega) (by omega)))
  all_goals (try (have e1 : i = a := by (have h : ((i : Int) == (a : Int)) = true := ‹_›; have := eq_of_beq h; omega)))
  all_goals (try (have e1 : ¬ i = a := by (have h : ((i : Int) == (a : Int)) = false := ‹_›; rw [beq_eq_false_iff_ne] at h; omega)))
  all_goals (try (have b2 : i < l.length := by (have h := of_decide_eq_true ‹decide ((i : Int) < (l.length : Int)) = true›; omega)))
  all_goals (try (have b2 : ¬ i < l.length := by (have h := of_decide_eq_false ‹decide ((i : Int) < (l.length : Int)) = false›; omega)))
  all_goals (try rw [if_pos e1] at hs)
  all_goals (try rw [if_neg e1] at hs)
  all_goals (try rw [if_pos b2] at hs)
  all_goals (try rw [if_neg b2, List.append_nil] at hs)
  all_goals (try simp only [Int.toNat_natCast] at *)
  all_goals (try (refine Rnd.mk ⟨i + 1, by omega, by omega, ?_⟩))
  all_goals (first | omega | exact ⟨by omega, by omega⟩ | (show _ * 8 ≤ _ ∧ _ ≤ _; exact ⟨by simp only [List.length_append, List.length_cons, List.length_nil]; omega, by simp only [List.length_append, List.length_cons, List.length_nil]; omega⟩) | skip)
  all_goals (try (have b := of_decide_eq_false ‹decide ((i : Int) ≤ (l.length : Int)) = false›; rw [show i = l.length + 1 by omega, hen]))
  repeat' ((conv => whnf);first|(with_reducible first|rfl|exact absTF|exact absFT)|exact True.intro|intro _|refine And.intro ?_ ?_|refine Fin.mk ?_|refine W1 rfl ?_ ?_|refine W2 rfl ?_ ?_|refine W3 rfl ?_ ?_|refine W4 ?_ ?_|refine W5 rfl ?_ ?_|refine W6 ?_ ?_|refine AppN.mk ?_|refine X1 (W1 rfl ?_ ?_)|refine X1 (W2 rfl ?_ ?_)|refine X2 (W7 rfl ?_ ?_)|refine X3 (W7 rfl ?_ ?_)|refine X4 (W7 rfl ?_ ?_)|refine X5 (W7 rfl ?_ ?_))
  all_goals (try (conv => whnf))
  all_goals (try first|exact Ob.mk (u8_bnd _)|(refine Ob.mk ?_;first|exact True.intro|assumption|omega|(try simp only [ZA,ZB,ZC,ZD,ZE,ZF,ZG,ZH,ZI,ZJ,ZK,ZL,ZM,ZN,ZO,Int.toNat_natCast,UInt8.ofNat_toNat,cast_eq] at *;omega)))
  all_goals (try first|(show (_:Int) = _;omega)|(show tupSV _ = _;with_unfolding_all rfl)|((first|show (_:Nat) ≤ _|show (_:Nat) ≤ _ ∧ (_:Nat) ≤ _|show (_:Int) ≤ _ ∧ (_:Int) ≤ _ ∧ (_:Int) ≤ _ ∧ (_:Int) ≤ _);(simp <;> omega)))
  all_goals (first | rfl | omega | (rw [hs]; done) | (rw [hs]; rfl) | trace_state)
theorem cutT_on {l : List NodeD} {kid : Int} (h : isT l kid = true ∧ kid ≠ 0) : cutT l kid = (cutA l kid).set kid.toNat (setUp (nd (cutA l kid) kid) (-1)) := by unfold cutT; rw [if_pos ⟨h.2, h.1⟩]
theorem cutT_off {l : List NodeD} {kid : Int} (h : ¬ (isT l kid = true ∧ kid ≠ 0)) : cutT l kid = cutA l kid := by unfold cutT; rw [if_neg (fun q => h ⟨q.2, q.1⟩)]
end Go.Vc

namespace Go.Vc
open Go.Proofs
set_option maxRecDepth 10000
set_option maxHeartbeats 4000000
theorem mm (a b : Int) (hb : 0 ≤ b) : (bif true then max 0 (bif false then max a b else min a b) else min 0 (bif false then max a b else min a b)) = min (max a 0) b := by
 show max 0 (min a b) = min (max a 0) b
 omega
end Go.Vc

namespace Go.Vc
open Go.Proofs
set_option maxRecDepth 10000
set_option maxHeartbeats 4000000
instance shAdd (md bk lx fm hd : Int) (fo sk : Bool) (ins : List UInt8) (l : List NodeD) (k s : Int) (nm : List UInt8) (at_ : List AttrD) (d : List UInt8) (up : Int) (kids : List Int) :
  FnM BB 39 [.loc 0 0, .agg [.int .i64 k, .int .i64 s, .str nm, .rd attrTy at_, .str d, .int .i64 up, .rd intTy kids]] [(0, .box [.own 1, .nils, .nils, .int .i64 md, .int .i64 bk, .int .i64 lx, .int .i64 fm, .int .i64 hd, .bool fo, .bool sk, .str ins]), (1, .own nodeTy l)] (l.length ≤ 100000 ∧ at_.length ≤ 100000)
   (.int .i64 l.length) [(0, .box [.own 1, .nils, .nils, .int .i64 md, .int .i64 bk, .int .i64 lx, .int .i64 fm, .int .i64 hd, .bool fo, .bool sk, .str ins]), (1, .own nodeTy (addT l (k, s, nm, at_, d, up, kids)))] := by
 refine FnM.intro (N := 28) [0, 1, 3, 4] [(3, [0, 0, 0, 0, 1, 1, 1, 3, 0, 0, 3]), (1000003, [3])] 2 Tryz.call39 Tryz.func39 rfl rfl (by kernel_rfl) (fun hpre => ?_)
 obtain ⟨hp1, hp2⟩ := hpre
 repeat' ((conv => whnf);first|(with_reducible first|rfl|exact absTF|exact absFT)|exact True.intro|intro _|refine And.intro ?_ ?_|refine Fin.mk ?_|refine W1 rfl ?_ ?_|refine W2 rfl ?_ ?_|refine W3 rfl ?_ ?_|refine W4 ?_ ?_|refine W5 rfl ?_ ?_|refine W6 ?_ ?_|refine AppN.mk ?_|refine X1 (W1 rfl ?_ ?_)|refine X1 (W2 rfl ?_ ?_)|refine X2 (W7 rfl ?_ ?_)|refine X3 (W7 rfl ?_ ?_)|refine X4 (W7 rfl ?_ ?_)|refine X5 (W7 rfl ?_ ?_))
 all_goals (try (conv => whnf))
 all_goals (try first|exact Ob.mk (u8_bnd _)|(refine Ob.mk ?_;first|exact True.intro|assumption|omega|(try simp only [ZA,ZB,ZC,ZD,ZE,ZF,ZG,ZH,ZI,ZJ,ZK,ZL,ZM,ZN,ZO,Int.toNat_natCast,UInt8.ofNat_toNat,cast_eq] at *;omega)))
 all_goals (try first|(show (_:Int) = _;omega)|(show tupSV _ = _;with_unfolding_all rfl)|((first|show (_:Nat) ≤ _|show (_:Nat) ≤ _ ∧ (_:Nat) ≤ _|show (_:Int) ≤ _ ∧ (_:Int) ≤ _ ∧ (_:Int) ≤ _ ∧ (_:Int) ≤ _);(simp <;> omega)))
 all_goals (first | (simp; done) | rfl | trace_state)
instance shCut (md bk lx fm hd : Int) (fo sk : Bool) (ins : List UInt8) (l : List NodeD) (kid : Int) : FnM BB 78 [.loc 0 0, .int .i64 kid] [(0, .box [.own 1, .nils, .nils, .int .i64 md, .int .i64 bk, .int .i64 lx, .int .i64 fm, .int .i64 hd, .bool fo, .bool sk, .str ins]), (1, .own nodeTy l)] (smallT l = true)
      (.tup []) [(0, .box [.own 1, .nils, .nils, .int .i64 md, .int .i64 bk, .int .i64 lx, .int .i64 fm, .int .i64 hd, .bool fo, .bool sk, .str ins]), (1, .own nodeTy (cutT l kid))] := by
  refine FnM.intro (N := 77) [0, 1, 4, 5, 6, 7, 14, 33, 38, 69] [] 2 Tryz.call78 Tryz.func78 rfl rfl (by kernel_rfl) (fun hpre => ?_)
  have H : placeT l kid ≥ 0 → (0 ≤ kid ∧ kid < l.length) ∧ (0 ≤ (nd l kid).up ∧ (nd l kid).up < l.length) ∧ placeT l kid < (nd l (nd l kid).up).kids.length ∧ (nd l (nd l kid).up).kids.length ≤ 1000 := by
    intro h
    obtain ⟨h1, h2, h3⟩ := place_nonneg h
    exact ⟨isT_iff.1 h1, isT_iff.1 h2, h3, (small_at hpre _ h2).2⟩
  by_cases h0 : placeT l kid ≥ 0
  · obtain ⟨f1, f2, f3, f4⟩ := H h0
    clear H
    obtain ⟨a, ha⟩ : ∃ a : Nat, placeT l kid = a := ⟨(placeT l kid).toNat, by omega⟩
    obtain ⟨u, hu⟩ : ∃ u : Int, (l.getD kid.toNat nodeTy.dflt).2.2.2.2.2.1 = u := ⟨_, rfl⟩
    obtain ⟨ks, hks⟩ : ∃ ks : List Int, (l.getD u.toNat nodeTy.dflt).2.2.2.2.2.2 = ks := ⟨_, rfl⟩
    have hA2 : cutA l kid = l.set u.toNat (setKids (l.getD u.toNat nodeTy.dflt) (delA ks a ks.length)) := by
      have f3' : placeT l kid < (ks.length : Int) := by rw [← hks, ← hu]; exact f3
      unfold cutA
      rw [if_pos h0, delA_end ks a (by omega), ha, Int.toNat_natCast, show ((a : Int) + 1).toNat = a + 1 by omega]
      subst hu; subst hks; rfl
    have f2 : 0 ≤ u ∧ u < l.length := by rw [← hu]; exact f2
    have f3 : placeT l kid < (ks.length : Int) := by rw [← hks, ← hu]; exact f3
    have f4 : ks.length ≤ 1000 := by rw [← hks, ← hu]; exact f4
    have hAi : ∀ i, isT (cutA l kid) i = isT l i := isT_len cutA_len
    have fk : isT l kid = true := isT_iff.2 f1
    repeat' ((conv => whnf);first|(with_reducible first|rfl|exact absTF|exact absFT)|exact True.intro|intro _|refine And.intro ?_ ?_|refine Fin.mk ?_|refine W1 rfl ?_ ?_|refine W2 rfl ?_ ?_|refine W3 rfl ?_ ?_|refine W4 ?_ ?_|refine W5 rfl ?_ ?_|refine W6 ?_ ?_|refine AppN.mk ?_|refine X1 (W1 rfl ?_ ?_)|refine X1 (W2 rfl ?_ ?_)|refine X2 (W7 rfl ?_ ?_)|refine X3 (W7 rfl ?_ ?_)|refine X4 (W7 rfl ?_ ?_)|refine X5 (W7 rfl ?_ ?_))
    all_goals (try (conv => whnf))
    all_goals (try first|exact Ob.mk (u8_bnd _)|(refine Ob.mk ?_;first|exact True.intro|assumption|omega|(try simp only [ZA,ZB,ZC,ZD,ZE,ZF,ZG,ZH,ZI,ZJ,ZK,ZL,ZM,ZN,ZO,Int.toNat_natCast,UInt8.ofNat_toNat,cast_eq] at *;omega)))
    all_goals (try first|(show (_:Int) = _;omega)|(show tupSV _ = _;with_unfolding_all rfl)|((first|show (_:Nat) ≤ _|show (_:Nat) ≤ _ ∧ (_:Nat) ≤ _|show (_:Int) ≤ _ ∧ (_:Int) ≤ _ ∧ (_:Int) ≤ _ ∧ (_:Int) ≤ _);(simp <;> omega)))
    all_goals (try simp only [hu, hks])
    all_goals (try (exfalso; have h := of_decide_eq_false ‹decide (placeT l kid ≥ 0) = false›; exact h h0))
    all_goals (first | exact f1 | exact f2 | omega | skip)
    refine LoopStop.mk (α := Nat) (fun i => [(7, .int .i64 i), (6, .own 20)]) (fun i => [(20, .own intTy (delA ks a i))]) 30 (fun i => i ≤ ks.length) (fun i => ks.length - i) 0 (by simp) ?_ (fun i hi => ?_)
    · repeat' ((conv => whnf);first|(with_reducible first|rfl|exact absTF|exact absFT)|exact True.intro|intro _|refine And.intro ?_ ?_|refine Fin.mk ?_|refine W1 rfl ?_ ?_|refine W2 rfl ?_ ?_|refine W3 rfl ?_ ?_|refine W4 ?_ ?_|refine W5 rfl ?_ ?_|refine W6 ?_ ?_|refine AppN.mk ?_|refine X1 (W1 rfl ?_ ?_)|refine X1 (W2 rfl ?_ ?_)|refine X2 (W7 rfl ?_ ?_)|refine X3 (W7 rfl ?_ ?_)|refine X4 (W7 rfl ?_ ?_)|refine X5 (W7 rfl ?_ ?_))
      all_goals (try (conv => whnf))
      all_goals (try first|exact Ob.mk (u8_bnd _)|(refine Ob.mk ?_;first|exact True.intro|assumption|omega|(try simp only [ZA,ZB,ZC,ZD,ZE,ZF,ZG,ZH,ZI,ZJ,ZK,ZL,ZM,ZN,ZO,Int.toNat_natCast,UInt8.ofNat_toNat,cast_eq] at *;omega)))
      all_goals (try first|(show (_:Int) = _;omega)|(show tupSV _ = _;with_unfolding_all rfl)|((first|show (_:Nat) ≤ _|show (_:Nat) ≤ _ ∧ (_:Nat) ≤ _|show (_:Int) ≤ _ ∧ (_:Int) ≤ _ ∧ (_:Int) ≤ _ ∧ (_:Int) ≤ _);(simp <;> omega)))
      all_goals (first | rfl | (simp [delA]; done) | trace_state)
    · have hl := delA_len ks a i
      have hst := delA_step ks a i
      repeat' ((conv => whnf);first|(with_reducible first|rfl|exact absTF|exact absFT)|exact True.intro|intro _|refine And.intro ?_ ?_|refine Fin.mk ?_|refine W1 rfl ?_ ?_|refine W2 rfl ?_ ?_|refine W3 rfl ?_ ?_|refine W4 ?_ ?_|refine W5 rfl ?_ ?_|refine W6 ?_ ?_|refine AppN.mk ?_|refine X1 (W1 rfl ?_ ?_)|refine X1 (W2 rfl ?_ ?_)|refine X2 (W7 rfl ?_ ?_)|refine X3 (W7 rfl ?_ ?_)|refine X4 (W7 rfl ?_ ?_)|refine X5 (W7 rfl ?_ ?_))
      all_goals (try (conv => whnf))
      all_goals (try first|exact Ob.mk (u8_bnd _)|(refine Ob.mk ?_;first|exact True.intro|assumption|omega|(try simp only [ZA,ZB,ZC,ZD,ZE,ZF,ZG,ZH,ZI,ZJ,ZK,ZL,ZM,ZN,ZO,Int.toNat_natCast,UInt8.ofNat_toNat,cast_eq] at *;omega)))
      all_goals (try first|(show (_:Int) = _;omega)|(show tupSV _ = _;with_unfolding_all rfl)|((first|show (_:Nat) ≤ _|show (_:Nat) ≤ _ ∧ (_:Nat) ≤ _|show (_:Int) ≤ _ ∧ (_:Int) ≤ _ ∧ (_:Int) ≤ _ ∧ (_:Int) ≤ _);(simp <;> omega)))
      all_goals (try simp only [hu, hks, Int.toNat_natCast])
      all_goals (try (have b1 : (i : Int) < (ks.length : Int) := by (have h := of_decide_eq_true (show decide ((i : Int) < (List.length (l.getD u.toNat nodeTy.dflt).2.2.2.2.2.2 : Int)) = true from ‹_›); rw [hks] at h; exact h)))
      all_goals (try (have b1 : ¬ (i : Int) < (ks.length : Int) := by (have h := of_decide_eq_false (show decide ((i : Int) < (List.length (l.getD u.toNat nodeTy.dflt).2.2.2.2.2.2 : Int)) = false from ‹_›); rw [hks] at h; exact h)))
      all_goals (try (have hs := hst (by omega) (by omega)))
      all_goals (try (have e1 : i = a := by (have h : ((i : Int) != placeT l kid) = false := ‹_›; rw [bne_eq_false_iff_eq, ha] at h; omega)))
      all_goals (try (have e1 : ¬ i = a := by (have h : ((i : Int) != placeT l kid) = true := ‹_›; rw [bne_iff_ne, ha] at h; omega)))
      all_goals (try rw [if_pos e1] at hs)
      all_goals (try rw [if_neg e1] at hs)
      have f2' : u.toNat < l.length := by omega
      all_goals (first | exact f1 | exact f2 | exact f2' | omega | skip)
      · refine Rnd.mk ⟨i + 1, by omega, by omega, ?_⟩
        repeat' ((conv => whnf);first|(with_reducible first|rfl|exact absTF|exact absFT)|exact True.intro|intro _|refine And.intro ?_ ?_|refine Fin.mk ?_|refine W1 rfl ?_ ?_|refine W2 rfl ?_ ?_|refine W3 rfl ?_ ?_|refine W4 ?_ ?_|refine W5 rfl ?_ ?_|refine W6 ?_ ?_|refine AppN.mk ?_|refine X1 (W1 rfl ?_ ?_)|refine X1 (W2 rfl ?_ ?_)|refine X2 (W7 rfl ?_ ?_)|refine X3 (W7 rfl ?_ ?_)|refine X4 (W7 rfl ?_ ?_)|refine X5 (W7 rfl ?_ ?_))
        all_goals (try (conv => whnf))
        all_goals (try first|exact Ob.mk (u8_bnd _)|(refine Ob.mk ?_;first|exact True.intro|assumption|omega|(try simp only [ZA,ZB,ZC,ZD,ZE,ZF,ZG,ZH,ZI,ZJ,ZK,ZL,ZM,ZN,ZO,Int.toNat_natCast,UInt8.ofNat_toNat,cast_eq] at *;omega)))
        all_goals (try first|(show (_:Int) = _;omega)|(show tupSV _ = _;with_unfolding_all rfl)|((first|show (_:Nat) ≤ _|show (_:Nat) ≤ _ ∧ (_:Nat) ≤ _|show (_:Int) ≤ _ ∧ (_:Int) ≤ _ ∧ (_:Int) ≤ _ ∧ (_:Int) ≤ _);(simp <;> omega)))
        all_goals (first | rfl | omega | (rw [hs]; done) | (rw [hs]; rfl) | trace_state)
      · refine Rnd.mk ⟨i + 1, by omega, by omega, ?_⟩
        repeat' ((conv => whnf);first|(with_reducible first|rfl|exact absTF|exact absFT)|exact True.intro|intro _|refine And.intro ?_ ?_|refine Fin.mk ?_|refine W1 rfl ?_ ?_|refine W2 rfl ?_ ?_|refine W3 rfl ?_ ?_|refine W4 ?_ ?_|refine W5 rfl ?_ ?_|refine W6 ?_ ?_|refine AppN.mk ?_|refine X1 (W1 rfl ?_ ?_)|refine X1 (W2 rfl ?_ ?_)|refine X2 (W7 rfl ?_ ?_)|refine X3 (W7 rfl ?_ ?_)|refine X4 (W7 rfl ?_ ?_)|refine X5 (W7 rfl ?_ ?_))
        all_goals (try (conv => whnf))
        all_goals (try first|exact Ob.mk (u8_bnd _)|(refine Ob.mk ?_;first|exact True.intro|assumption|omega|(try simp only [ZA,ZB,ZC,ZD,ZE,ZF,ZG,ZH,ZI,ZJ,ZK,ZL,ZM,ZN,ZO,Int.toNat_natCast,UInt8.ofNat_toNat,cast_eq] at *;omega)))
        all_goals (try first|(show (_:Int) = _;omega)|(show tupSV _ = _;with_unfolding_all rfl)|((first|show (_:Nat) ≤ _|show (_:Nat) ≤ _ ∧ (_:Nat) ≤ _|show (_:Int) ≤ _ ∧ (_:Int) ≤ _ ∧ (_:Int) ≤ _ ∧ (_:Int) ≤ _);(simp <;> omega)))
        all_goals (first | rfl | omega | (rw [hs]; done) | (rw [hs]; rfl) | trace_state)
      all_goals (obtain rfl : i = ks.length := by omega)
      all_goals (try simp only [List.length_set])
      all_goals (first | exact f1 | (show Int.toNat _ < _; omega) | skip)
      all_goals (try (have hG : (isT (l.set u.toNat (setKids (l.getD u.toNat nodeTy.dflt) (delA ks a ks.length))) kid && kid != 0) = true := ‹_›; rw [isT_set, fk, Bool.true_and, bne_iff_ne] at hG; rw [cutT_on ⟨fk, hG⟩, hA2]; rfl))
      all_goals (try (have hG : (isT (l.set u.toNat (setKids (l.getD u.toNat nodeTy.dflt) (delA ks a ks.length))) kid && kid != 0) = false := ‹_›; rw [isT_set, fk, Bool.true_and, bne_eq_false_iff_eq] at hG; rw [cutT_off (fun q => q.2 hG), hA2]; rfl))
      all_goals trace_state
  · have hA : cutA l kid = l := by unfold cutA; rw [if_neg h0]
    have g1 : (isT l kid && kid != 0) = true → isT l kid = true ∧ kid ≠ 0 := fun h => by rw [Bool.and_eq_true, bne_iff_ne] at h; exact h
    have g0 : (isT l kid && kid != 0) = false → ¬ (isT l kid = true ∧ kid ≠ 0) := fun h q => by rw [q.1, Bool.true_and, bne_eq_false_iff_eq] at h; exact q.2 h
    repeat' ((conv => whnf);first|(with_reducible first|rfl|exact absTF|exact absFT)|exact True.intro|intro _|refine And.intro ?_ ?_|refine Fin.mk ?_|refine W1 rfl ?_ ?_|refine W2 rfl ?_ ?_|refine W3 rfl ?_ ?_|refine W4 ?_ ?_|refine W5 rfl ?_ ?_|refine W6 ?_ ?_|refine AppN.mk ?_|refine X1 (W1 rfl ?_ ?_)|refine X1 (W2 rfl ?_ ?_)|refine X2 (W7 rfl ?_ ?_)|refine X3 (W7 rfl ?_ ?_)|refine X4 (W7 rfl ?_ ?_)|refine X5 (W7 rfl ?_ ?_))
    all_goals (try (conv => whnf))
    all_goals (try first|exact Ob.mk (u8_bnd _)|(refine Ob.mk ?_;first|exact True.intro|assumption|omega|(try simp only [ZA,ZB,ZC,ZD,ZE,ZF,ZG,ZH,ZI,ZJ,ZK,ZL,ZM,ZN,ZO,Int.toNat_natCast,UInt8.ofNat_toNat,cast_eq] at *;omega)))
    all_goals (try first|(show (_:Int) = _;omega)|(show tupSV _ = _;with_unfolding_all rfl)|((first|show (_:Nat) ≤ _|show (_:Nat) ≤ _ ∧ (_:Nat) ≤ _|show (_:Int) ≤ _ ∧ (_:Int) ≤ _ ∧ (_:Int) ≤ _ ∧ (_:Int) ≤ _);(simp <;> omega)))
    all_goals (try (exfalso; exact h0 (of_decide_eq_true ‹decide (placeT l kid ≥ 0) = true›)))
    all_goals (try (have q := g1 ‹_›; have q' := isT_iff.1 q.1))
    all_goals (try (have q := g0 ‹_›))
    all_goals (first | exact q' | (show Int.toNat _ < _; omega) | (rw [cutT_on q, hA]; rfl) | (rw [cutT_off q, hA]; done) | (rw [cutT_off q, hA]; rfl) | trace_state)
instance shPut (md bk lx fm hd : Int) (fo sk : Bool) (ins : List UInt8) (l : List NodeD) (up at_ kid : Int) : FnM BB 40 [.loc 0 0, .int .i64 up, .int .i64 at_, .int .i64 kid] [(0, .box [.own 1, .nils, .nils, .int .i64 md, .int .i64 bk, .int .i64 lx, .int .i64 fm, .int .i64 hd, .bool fo, .bool sk, .str ins]), (1, .own nodeTy l)] (smallT l = true)
      (.tup []) [(0, .box [.own 1, .nils, .nils, .int .i64 md, .int .i64 bk, .int .i64 lx, .int .i64 fm, .int .i64 hd, .bool fo, .bool sk, .str ins]), (1, .own nodeTy (putT l up at_ kid))] := by
  refine FnM.intro (N := 69) [0, 1, 2, 3, 8, 34] [(3, [0, 0, 0, 1, 0, 0, 0, 0, 1, 1, 1, 0, 1, 3, 3, 3])] 2 Tryz.call40 Tryz.func40 rfl rfl (by kernel_rfl) (fun hpre => ?_)
  have hsm := cutT_sm (kid := kid) (smB_of hpre)
  have hll := small_len hpre
  have hu : (!isT l up || !isT l kid || kid == 0 || holdsT l kid up) = false → (0 ≤ up ∧ up < (cutT l kid).length) ∧ (0 ≤ kid ∧ kid < (cutT l kid).length) ∧ ((cutT l kid).getD up.toNat nodeTy.dflt).kids.length ≤ 1000 := by
    intro h
    simp only [Bool.or_eq_false_iff, Bool.not_eq_false'] at h
    have h1 := isT_iff.1 h.1.1.1
    have h2 := isT_iff.1 h.1.1.2
    rw [cutT_len]
    exact ⟨h1, h2, (hsm.2 up.toNat (by rw [cutT_len]; omega)).2⟩
  have hp1 : (!isT l up || !isT l kid || kid == 0 || holdsT l kid up) = true → putT l up at_ kid = l := fun h => by rw [putT, if_pos h]
  repeat' ((conv => whnf);first|(with_reducible first|rfl|exact absTF|exact absFT)|exact True.intro|intro _|refine And.intro ?_ ?_|refine Fin.mk ?_|refine W1 rfl ?_ ?_|refine W2 rfl ?_ ?_|refine W3 rfl ?_ ?_|refine W4 ?_ ?_|refine W5 rfl ?_ ?_|refine W6 ?_ ?_|refine AppN.mk ?_|refine X1 (W1 rfl ?_ ?_)|refine X1 (W2 rfl ?_ ?_)|refine X2 (W7 rfl ?_ ?_)|refine X3 (W7 rfl ?_ ?_)|refine X4 (W7 rfl ?_ ?_)|refine X5 (W7 rfl ?_ ?_))
  all_goals (try (conv => whnf))
  all_goals (try first|exact Ob.mk (u8_bnd _)|(refine Ob.mk ?_;first|exact True.intro|assumption|omega|(try simp only [ZA,ZB,ZC,ZD,ZE,ZF,ZG,ZH,ZI,ZJ,ZK,ZL,ZM,ZN,ZO,Int.toNat_natCast,UInt8.ofNat_toNat,cast_eq] at *;omega)))
  all_goals (try first|(show (_:Int) = _;omega)|(show tupSV _ = _;with_unfolding_all rfl)|((first|show (_:Nat) ≤ _|show (_:Nat) ≤ _ ∧ (_:Nat) ≤ _|show (_:Int) ≤ _ ∧ (_:Int) ≤ _ ∧ (_:Int) ≤ _ ∧ (_:Int) ≤ _);(simp <;> omega)))
  all_goals (try (have q := hu ‹(!isT l up || !isT l kid || kid == 0 || holdsT l kid up) = false›; obtain ⟨q1, q2, q3⟩ := q))
  all_goals (first | (rw [hp1 ‹_›]; done) | exact q1 | exact q2 | (show Int.toNat _ < _; omega) | skip)
  · rw [mm _ _ (by omega)]
    refine ⟨by omega, by omega, Nat.le_trans q3 (by omega)⟩
  · rw [List.length_set]; exact q2
  · rw [List.length_set]; omega
  · rw [putT, if_neg (by rw [show (!isT l up || !isT l kid || kid == 0 || holdsT l kid up) = false from ‹_›]; decide), mm _ _ (by omega)]
    rfl
  all_goals trace_state
end Go.Vc

namespace Go.Vc
open Go.Proofs
set_option maxRecDepth 10000
set_option maxHeartbeats 4000000
instance rTabled (t : List NodeD) (op : List Int) (at_ md bk lx fm hd : Int) (fo sk : Bool) (ins : List UInt8) :
  FnM BB 106 [.loc 0 0, .int .i64 at_] [(0, .box [.own 1, .own 2, .nils, .int .i64 md, .int .i64 bk, .int .i64 lx, .int .i64 fm, .int .i64 hd, .bool fo, .bool sk, .str ins]), (1, .own nodeTy t), (2, .own intTy op)] (at_ ≤ 1)
   (.bool false) [(0, .box [.own 1, .own 2, .nils, .int .i64 md, .int .i64 bk, .int .i64 lx, .int .i64 fm, .int .i64 hd, .bool fo, .bool sk, .str ins]), (1, .own nodeTy t), (2, .own intTy op)] := by
 refine FnM.intro (N := 23) [0, 1, 4, 5, 8, 22] [(4, [0, 0, 0, 1, 0, 0, 0, 1, 0, 1, 1, 3])] 3 Tryz.call106 Tryz.func106 rfl rfl (by kernel_rfl) (fun hpre => ?_)
 repeat' ((conv => whnf);first|(with_reducible first|rfl|exact absTF|exact absFT)|exact True.intro|intro _|refine And.intro ?_ ?_|refine Fin.mk ?_|refine W1 rfl ?_ ?_|refine W2 rfl ?_ ?_|refine W3 rfl ?_ ?_|refine W4 ?_ ?_|refine W5 rfl ?_ ?_|refine W6 ?_ ?_|refine AppN.mk ?_|refine X1 (W1 rfl ?_ ?_)|refine X1 (W2 rfl ?_ ?_)|refine X2 (W7 rfl ?_ ?_)|refine X3 (W7 rfl ?_ ?_)|refine X4 (W7 rfl ?_ ?_)|refine X5 (W7 rfl ?_ ?_))
 all_goals (try (conv => whnf))
 all_goals (try first|exact Ob.mk (u8_bnd _)|(refine Ob.mk ?_;first|exact True.intro|assumption|omega|(try simp only [ZA,ZB,ZC,ZD,ZE,ZF,ZG,ZH,ZI,ZJ,ZK,ZL,ZM,ZN,ZO,Int.toNat_natCast,UInt8.ofNat_toNat,cast_eq] at *;omega)))
 all_goals (try first|(show (_:Int) = _;omega)|(show tupSV _ = _;with_unfolding_all rfl)|((first|show (_:Nat) ≤ _|show (_:Nat) ≤ _ ∧ (_:Nat) ≤ _|show (_:Int) ≤ _ ∧ (_:Int) ≤ _ ∧ (_:Int) ≤ _ ∧ (_:Int) ≤ _);(simp <;> omega)))
 refine LoopStop.unroll 1 ?_
 repeat' ((conv => whnf);first|(with_reducible first|rfl|exact absTF|exact absFT)|exact True.intro|(intro hq; (try simp only [ZA,ZB,ZC,ZD,ZE,ZF,ZG,ZH,ZI,ZJ,ZK,ZL,ZM,ZN,ZO,Bool.and_eq_false_iff,Bool.or_eq_false_iff,ge_iff_le,gt_iff_lt,Int.toNat_natCast,UInt8.ofNat_toNat,cast_eq] at hq); (try (exfalso; first | omega | exact hq trivial | exact absurd hq (by decide))))|refine And.intro ?_ ?_|refine Fin.mk ?_|refine W1 rfl ?_ ?_|refine W2 rfl ?_ ?_|refine W3 rfl ?_ ?_|refine W4 ?_ ?_|refine W5 rfl ?_ ?_|refine W6 ?_ ?_|refine AppN.mk ?_|refine X1 (W1 rfl ?_ ?_)|refine X1 (W2 rfl ?_ ?_)|refine X2 (W7 rfl ?_ ?_)|refine X3 (W7 rfl ?_ ?_)|refine X4 (W7 rfl ?_ ?_)|refine X5 (W7 rfl ?_ ?_))
 all_goals (try (conv => whnf))
 all_goals (try first|exact Ob.mk (u8_bnd _)|(refine Ob.mk ?_;first|exact True.intro|assumption|omega|(try simp only [ZA,ZB,ZC,ZD,ZE,ZF,ZG,ZH,ZI,ZJ,ZK,ZL,ZM,ZN,ZO,Int.toNat_natCast,UInt8.ofNat_toNat,cast_eq] at *;omega)))
 all_goals (try first|(show (_:Int) = _;omega)|(show tupSV _ = _;with_unfolding_all rfl)|((first|show (_:Nat) ≤ _|show (_:Nat) ≤ _ ∧ (_:Nat) ≤ _|show (_:Int) ≤ _ ∧ (_:Int) ≤ _ ∧ (_:Int) ≤ _ ∧ (_:Int) ≤ _);(simp <;> omega)))
 all_goals (first | rfl | trace_state)
instance rMode (t : List NodeD) (op : List Int) (nm : List UInt8) (at_ md bk lx fm hd : Int) (fo sk : Bool) (ins : List UInt8) :
    FnM BB 80 [.loc 0 0, .str nm, .int .i64 at_, .bool true] [(0, .box [.own 1, .own 2, .nils, .int .i64 md, .int .i64 bk, .int .i64 lx, .int .i64 fm, .int .i64 hd, .bool fo, .bool sk, .str ins]), (1, .own nodeTy t), (2, .own intTy op)] (at_ ≤ 1)
      (.int .i64 (modeL nm hd)) [(0, .box [.own 1, .own 2, .nils, .int .i64 md, .int .i64 bk, .int .i64 lx, .int .i64 fm, .int .i64 hd, .bool fo, .bool sk, .str ins]), (1, .own nodeTy t), (2, .own intTy op)] := by
  refine FnM.intro (N := 71) [0, 1, 2, 3, 8, 9, 10, 11, 17, 25, 40, 42, 52, 58, 67, 69, 70] [] 3 Tryz.call80 Tryz.func80 rfl rfl (by kernel_rfl) (fun hpre => ?_)
  repeat' ((conv => whnf);first|(with_reducible first|rfl|exact absTF|exact absFT)|exact True.intro|intro _|refine And.intro ?_ ?_|refine Fin.mk ?_|refine W1 rfl ?_ ?_|refine W2 rfl ?_ ?_|refine W3 rfl ?_ ?_|refine W4 ?_ ?_|refine W5 rfl ?_ ?_|refine W6 ?_ ?_|refine AppN.mk ?_|refine X1 (W1 rfl ?_ ?_)|refine X1 (W2 rfl ?_ ?_)|refine X2 (W7 rfl ?_ ?_)|refine X3 (W7 rfl ?_ ?_)|refine X4 (W7 rfl ?_ ?_)|refine X5 (W7 rfl ?_ ?_))
  all_goals (try (conv => whnf))
  all_goals (try first|exact Ob.mk (u8_bnd _)|(refine Ob.mk ?_;first|exact True.intro|assumption|omega|(try simp only [ZA,ZB,ZC,ZD,ZE,ZF,ZG,ZH,ZI,ZJ,ZK,ZL,ZM,ZN,ZO,Int.toNat_natCast,UInt8.ofNat_toNat,cast_eq] at *;omega)))
  all_goals (try first|(show (_:Int) = _;omega)|(show tupSV _ = _;with_unfolding_all rfl)|((first|show (_:Nat) ≤ _|show (_:Nat) ≤ _ ∧ (_:Nat) ≤ _|show (_:Int) ≤ _ ∧ (_:Int) ≤ _ ∧ (_:Int) ≤ _ ∧ (_:Int) ≤ _);(simp <;> omega)))
  refine LoopStop.unroll 9 ?_
  repeat' ((conv => whnf);first|(with_reducible first|rfl|exact absTF|exact absFT)|exact True.intro|intro _|refine And.intro ?_ ?_|refine Fin.mk ?_|refine W1 rfl ?_ ?_|refine W2 rfl ?_ ?_|refine W3 rfl ?_ ?_|refine W4 ?_ ?_|refine W5 rfl ?_ ?_|refine W6 ?_ ?_|refine AppN.mk ?_|refine X1 (W1 rfl ?_ ?_)|refine X1 (W2 rfl ?_ ?_)|refine X2 (W7 rfl ?_ ?_)|refine X3 (W7 rfl ?_ ?_)|refine X4 (W7 rfl ?_ ?_)|refine X5 (W7 rfl ?_ ?_))
  all_goals (try (conv => whnf))
  all_goals (try first|exact Ob.mk (u8_bnd _)|(refine Ob.mk ?_;first|exact True.intro|assumption|omega|(try simp only [ZA,ZB,ZC,ZD,ZE,ZF,ZG,ZH,ZI,ZJ,ZK,ZL,ZM,ZN,ZO,Int.toNat_natCast,UInt8.ofNat_toNat,cast_eq] at *;omega)))
  all_goals (try first|(show (_:Int) = _;omega)|(show tupSV _ = _;with_unfolding_all rfl)|((first|show (_:Nat) ≤ _|show (_:Nat) ≤ _ ∧ (_:Nat) ≤ _|show (_:Int) ≤ _ ∧ (_:Int) ≤ _ ∧ (_:Int) ≤ _ ∧ (_:Int) ≤ _);(simp <;> omega)))
  all_goals (try (exact ⟨by decide, by decide⟩))
  all_goals (try exact hpre)
  all_goals (try (exfalso; revert ‹decide _ = _›; decide))
  all_goals (try (have e := eq_of_beq (show (([116, 114] : List UInt8) == nm) = true from by assumption); subst e; rfl))
  all_goals (try (have e := eq_of_beq (show (([116, 98, 111, 100, 121] : List UInt8) == nm) = true from by assumption); subst e; rfl))
  all_goals (try (have e := eq_of_beq (show (([116, 102, 111, 111, 116] : List UInt8) == nm) = true from by assumption); subst e; rfl))
  all_goals (try (have e := eq_of_beq (show (([116, 104, 101, 97, 100] : List UInt8) == nm) = true from by assumption); subst e; rfl))
  all_goals (try (have e := eq_of_beq (show (([99, 97, 112, 116, 105, 111, 110] : List UInt8) == nm) = true from by assumption); subst e; rfl))
  all_goals (try (have e := eq_of_beq (show (([99, 111, 108, 103, 114, 111, 117, 112] : List UInt8) == nm) = true from by assumption); subst e; rfl))
  all_goals (try (have e := eq_of_beq (show (([116, 97, 98, 108, 101] : List UInt8) == nm) = true from by assumption); subst e; rfl))
  all_goals (try (have e := eq_of_beq (show (([98, 111, 100, 121] : List UInt8) == nm) = true from by assumption); subst e; rfl))
  all_goals (try (exfalso; exact absurd ‹(true && false) = true› (by decide)))
  all_goals (try (exfalso; have h := ‹((nm == [116, 100] || nm == [116, 104]) && !true) = true›; rw [Bool.not_true, Bool.and_false] at h; cases h))
  all_goals (try (exfalso; have h := ‹(nm == [104, 101, 97, 100] && !true) = true›; rw [Bool.not_true, Bool.and_false] at h; cases h))
  all_goals (try (have e := eq_of_beq ‹(nm == [115, 101, 108, 101, 99, 116]) = true›; subst e; rfl))
  all_goals (try (have h := ‹(nm == [104, 116, 109, 108] && hd == 0) = true›; rw [Bool.and_eq_true] at h; have e := eq_of_beq h.1; have e2 := eq_of_beq h.2; subst e; subst e2; rfl))
  all_goals (try (have e := eq_of_beq ‹(nm == [104, 116, 109, 108]) = true›; subst e; have h := ‹(([104, 116, 109, 108] : List UInt8) == [104, 116, 109, 108] && hd == 0) = false›; have e2 : (hd == 0) = false := by simpa using h
                  show (4 : Int) = bif (bif hd == 0 then ((2 : Int), true) else (4, true)).2 then (bif hd == 0 then ((2 : Int), true) else (4, true)).1 else 5
                  rw [e2]; rfl))
  all_goals (have ne : ∀ a : List UInt8, (a == nm) = false → (nm == a) = false := fun a h => by rw [beq_eq_false_iff_ne] at h ⊢; exact fun e => h e.symm)
  all_goals (have e1 := ne [116, 114] (by assumption))
  all_goals (have e2 := ne [116, 98, 111, 100, 121] (by assumption))
  all_goals (have e3 := ne [116, 102, 111, 111, 116] (by assumption))
  all_goals (have e4 := ne [116, 104, 101, 97, 100] (by assumption))
  all_goals (have e5 := ne [99, 97, 112, 116, 105, 111, 110] (by assumption))
  all_goals (have e6 := ne [99, 111, 108, 103, 114, 111, 117, 112] (by assumption))
  all_goals (have e7 := ne [116, 97, 98, 108, 101] (by assumption))
  all_goals (have e8 := ne [98, 111, 100, 121] (by assumption))
  all_goals (have e9 : (nm == [115, 101, 108, 101, 99, 116]) = false := by assumption)
  all_goals (have e10 : (nm == [104, 116, 109, 108]) = false := by assumption)
  all_goals (unfold modeL toldL wSelect wTd wTh wTr wTbody wTfoot wThead wCaption wColgroup wTable wHead wBody wHtml)
  all_goals (rw [e1, e2, e3, e4, e5, e6, e7, e8, e9, e10])
  all_goals (cases (nm == [116, 100] || nm == [116, 104]) <;> cases nm == [104, 101, 97, 100] <;> rfl)
end Go.Vc

namespace Go.Vc
open Go.Proofs
set_option maxRecDepth 10000
set_option maxHeartbeats 4000000
theorem modeL_nn (ins : List UInt8) (hd : Int) : 0 ≤ modeL ins hd := by
 unfold modeL toldL
 cases ins == wSelect <;> cases ins == wTd || ins == wTh <;> cases ins == wTr <;> cases ins == wTbody || (ins == wTfoot || ins == wThead) <;> cases ins == wCaption <;> cases ins == wColgroup <;> cases ins == wTable <;> cases ins == wHead <;> cases ins == wBody <;> cases ins == wHtml <;> cases hd == 0 <;> decide
instance rMode2 (t : List NodeD) (op : List Int) (nm : List UInt8) (at_ md bk lx fm hd : Int) (fo sk last : Bool) (ins : List UInt8) :
  FnM BB 80 [.loc 0 0, .str nm, .int .i64 at_, .bool last] [(0, .box [.own 1, .own 2, .nils, .int .i64 md, .int .i64 bk, .int .i64 lx, .int .i64 fm, .int .i64 hd, .bool fo, .bool sk, .str ins]), (1, .own nodeTy t), (2, .own intTy op)] (at_ ≤ 1 ∧ last = true)
   (.int .i64 (modeL nm hd)) [(0, .box [.own 1, .own 2, .nils, .int .i64 md, .int .i64 bk, .int .i64 lx, .int .i64 fm, .int .i64 hd, .bool fo, .bool sk, .str ins]), (1, .own nodeTy t), (2, .own intTy op)] :=
 ⟨Tryz.call80, fun h => by
  have h2 := h.2
  subst h2
  exact (rMode t op nm at_ md bk lx fm hd fo sk ins).ok h.1⟩
instance rReset (t : List NodeD) (x : Int) (md bk lx fm hd : Int) (fo sk : Bool) (ins : List UInt8) :
  FnM BB 41 [.loc 0 0]
   [(0, .box [.own 1, .own 2, .nils, .int .i64 md, .int .i64 bk, .int .i64 lx, .int .i64 fm, .int .i64 hd, .bool fo, .bool sk, .str ins]), (1, .own nodeTy t), (2, .own intTy [x])] ((0 ≤ x ∧ x < t.length) ∧ ins ≠ [])
   (.tup [])
   [(0, .box [.own 1, .own 2, .nils, .int .i64 (modeL ins hd), .int .i64 bk, .int .i64 lx, .int .i64 fm, .int .i64 hd, .bool fo, .bool sk, .str ins]), (1, .own nodeTy t), (2, .own intTy [x])] := by
 refine FnM.intro (N := 63) [0, 2, 3, 4, 5, 16, 42, 50, 58] [(4, [0, 0, 0, 0, 0, 0, 0, 0, 0, 0, 0, 0, 0, 0, 6, 6])] 3 Tryz.call41 Tryz.func41 rfl rfl (by kernel_rfl) (fun hpre => ?_)
 obtain ⟨hp1, hp2⟩ := hpre
 have hne : (ins == []) = false := beq_eq_false_iff_ne.2 hp2
 have hm := modeL_nn ins hd
 repeat' ((conv => whnf);first|(with_reducible first|rfl|exact absTF|exact absFT)|exact True.intro|intro _|refine And.intro ?_ ?_|refine Fin.mk ?_|refine W1 rfl ?_ ?_|refine W2 rfl ?_ ?_|refine W3 rfl ?_ ?_|refine W4 ?_ ?_|refine W5 rfl ?_ ?_|refine W6 ?_ ?_|refine AppN.mk ?_|refine X1 (W1 rfl ?_ ?_)|refine X1 (W2 rfl ?_ ?_)|refine X2 (W7 rfl ?_ ?_)|refine X3 (W7 rfl ?_ ?_)|refine X4 (W7 rfl ?_ ?_)|refine X5 (W7 rfl ?_ ?_))
 all_goals (try (conv => whnf))
 all_goals (try first|exact Ob.mk (u8_bnd _)|(refine Ob.mk ?_;first|exact True.intro|assumption|omega|(try simp only [ZA,ZB,ZC,ZD,ZE,ZF,ZG,ZH,ZI,ZJ,ZK,ZL,ZM,ZN,ZO,Int.toNat_natCast,UInt8.ofNat_toNat,cast_eq] at *;omega)))
 all_goals (try first|(show (_:Int) = _;omega)|(show tupSV _ = _;with_unfolding_all rfl)|((first|show (_:Nat) ≤ _|show (_:Nat) ≤ _ ∧ (_:Nat) ≤ _|show (_:Int) ≤ _ ∧ (_:Int) ≤ _ ∧ (_:Int) ≤ _ ∧ (_:Int) ≤ _);(simp <;> omega)))
 refine LoopStop.unroll 1 ?_
 have hlast : (((([x] : List Int).length : Nat) : Int) - 1 == 0 && !ins == []) = true := by rw [hne]; rfl
 repeat' ((conv => whnf);first|(with_reducible first|rfl|exact absTF|exact absFT)|exact True.intro|intro _|refine And.intro ?_ ?_|refine Fin.mk ?_|refine W1 rfl ?_ ?_|refine W2 rfl ?_ ?_|refine W3 rfl ?_ ?_|refine W4 ?_ ?_|refine W5 rfl ?_ ?_|refine W6 ?_ ?_|refine AppN.mk ?_|refine X1 (W1 rfl ?_ ?_)|refine X1 (W2 rfl ?_ ?_)|refine X2 (W7 rfl ?_ ?_)|refine X3 (W7 rfl ?_ ?_)|refine X4 (W7 rfl ?_ ?_)|refine X5 (W7 rfl ?_ ?_))
 all_goals (try (conv => whnf))
 all_goals (try first|exact Ob.mk (u8_bnd _)|(refine Ob.mk ?_;first|exact True.intro|assumption|omega|(try simp only [ZA,ZB,ZC,ZD,ZE,ZF,ZG,ZH,ZI,ZJ,ZK,ZL,ZM,ZN,ZO,Int.toNat_natCast,UInt8.ofNat_toNat,cast_eq] at *;omega)))
 all_goals (try first|(show (_:Int) = _;omega)|(show tupSV _ = _;with_unfolding_all rfl)|((first|show (_:Nat) ≤ _|show (_:Nat) ≤ _ ∧ (_:Nat) ≤ _|show (_:Int) ≤ _ ∧ (_:Int) ≤ _ ∧ (_:Int) ≤ _ ∧ (_:Int) ≤ _);(simp <;> omega)))
 all_goals (try (exact hp1))
 all_goals (try (exact ⟨by decide, hlast⟩))
 all_goals (try (exact ⟨by decide, by decide⟩))
 all_goals (try (exfalso; have h : (((([x] : List Int).length : Nat) : Int) - 1 == 0 && !ins == []) = false := ‹_›; rw [hlast] at h; cases h))
 all_goals (try (exfalso; have h : decide (modeL ins hd ≥ 0) = false := ‹_›; rw [decide_eq_true hm] at h; cases h))
 all_goals (try (exfalso; have h : decide (((([x] : List Int).length : Nat) : Int) - 1 ≥ 0) = false := ‹_›; revert h; decide))
 all_goals (try (exfalso; exact absurd ‹((0 : Int) != 0) = true› (by decide)))
 all_goals (try (exact ⟨by show (((1 : Nat) : Int)) - 1 ≤ 1; decide, hlast⟩))
 all_goals (try (exfalso; exact absurd ‹decide (((([x] : List Int).length : Nat) : Int) - 1 ≥ 0) = false› (by show ¬ decide ((((1 : Nat) : Int)) - 1 ≥ 0) = false; decide)))
 all_goals (try rfl)
instance shAddn (md bk lx fm hd : Int) (fo sk : Bool) (ins : List UInt8) (l : List NodeD) (k s : Int) (nm : List UInt8) (d : List UInt8) (up : Int) :
  FnM BB 39 [.loc 0 0, .agg [.int .i64 k, .int .i64 s, .str nm, .nils, .str d, .int .i64 up, .nils]] [(0, .box [.own 1, .nils, .nils, .int .i64 md, .int .i64 bk, .int .i64 lx, .int .i64 fm, .int .i64 hd, .bool fo, .bool sk, .str ins]), (1, .own nodeTy l)] (l.length ≤ 100000 ∧ ([] : List AttrD).length ≤ 100000)
   (.int .i64 l.length) [(0, .box [.own 1, .nils, .nils, .int .i64 md, .int .i64 bk, .int .i64 lx, .int .i64 fm, .int .i64 hd, .bool fo, .bool sk, .str ins]), (1, .own nodeTy (addT l (k, s, nm, [], d, up, [])))] :=
 FnM.wk (shAdd md bk lx fm hd fo sk ins l k s nm [] d up []) fun r β vs h => by
  refine ⟨h.1, fun i sv v h1 h2 => ?_⟩
  match i, h1 with
  | 0, h1 => cases h1; exact h.2 0 _ v rfl h2
  | 1, h1 =>
   cases h1
   obtain ⟨cs, rfl, hc⟩ := (h.2 1 _ v rfl h2).aggL_inv
   refine .aggL ⟨hc.1, fun j sv u q1 q2 => ?_⟩
   match j, q1 with
   | 0, q1 => cases q1; exact hc.2 0 _ u rfl q2
   | 1, q1 => cases q1; exact hc.2 1 _ u rfl q2
   | 2, q1 => cases q1; exact hc.2 2 _ u rfl q2
   | 3, q1 => cases q1; exact nils_rd (hc.2 3 _ u rfl q2)
   | 4, q1 => cases q1; exact hc.2 4 _ u rfl q2
   | 5, q1 => cases q1; exact hc.2 5 _ u rfl q2
   | 6, q1 => cases q1; exact nils_rd (hc.2 6 _ u rfl q2)
instance rNew17 (ins : List UInt8) :
  FnM BB 9 [.str ins] [] (ins ≠ [] ∧ ins.length ≤ 60) (.loc 0 0)
   [(0, .box [.own 1, .own 2, .nils, .int .i64 (modeL ins 0), .int .i64 0, .int .i64 (W.kLexed ins), .int .i64 0, .int .i64 0, .bool false, .bool false, .str ins]), (1, .own nodeTy newT), (2, .own intTy [1])] := by
 refine FnM.intro (N := 34) [0, 2, 3, 4, 10] [] 3 Tryz.call9 Tryz.func9 rfl rfl (by kernel_rfl) (fun hpre => ?_)
 obtain ⟨hp1, hp2⟩ := hpre
 repeat' ((conv => whnf);first|(with_reducible first|rfl|exact absTF|exact absFT)|exact True.intro|intro _|refine And.intro ?_ ?_|refine Fin.mk ?_|refine W1 rfl ?_ ?_|refine W2 rfl ?_ ?_|refine W3 rfl ?_ ?_|refine W4 ?_ ?_|refine W5 rfl ?_ ?_|refine W6 ?_ ?_|refine AppN.mk ?_|refine X1 (W1 rfl ?_ ?_)|refine X1 (W2 rfl ?_ ?_)|refine X2 (W7 rfl ?_ ?_)|refine X3 (W7 rfl ?_ ?_)|refine X4 (W7 rfl ?_ ?_)|refine X5 (W7 rfl ?_ ?_))
 all_goals (try (conv => whnf))
 all_goals (try first|exact Ob.mk (u8_bnd _)|(refine Ob.mk ?_;first|exact True.intro|assumption|omega|(try simp only [ZA,ZB,ZC,ZD,ZE,ZF,ZG,ZH,ZI,ZJ,ZK,ZL,ZM,ZN,ZO,Int.toNat_natCast,UInt8.ofNat_toNat,cast_eq] at *;omega)))
 all_goals (try first|(show (_:Int) = _;omega)|(show tupSV _ = _;with_unfolding_all rfl)|((first|show (_:Nat) ≤ _|show (_:Nat) ≤ _ ∧ (_:Nat) ≤ _|show (_:Int) ≤ _ ∧ (_:Int) ≤ _ ∧ (_:Int) ≤ _ ∧ (_:Int) ≤ _);(simp <;> omega)))
 all_goals (try (exfalso; exact hp1 (by simpa using ‹(!ins == []) = false›)))
 all_goals (try (exact newT_sm))
 all_goals (try (exact ⟨⟨by decide, by decide⟩, hp1⟩))
 all_goals (try rfl)
end Go.Vc

namespace Go.Vc
open Go.Proofs
set_option maxRecDepth 10000
set_option maxHeartbeats 8000000
instance fIs1 (md bk lx fm hd : Int) (fo sk : Bool) (ins : List UInt8) (t : List NodeD) (op : List Int) (nm : List UInt8) : FnM BB 16 [.loc 0 0, .str nm] [(0, .box [.own 1, .own 2, .nils, .int .i64 md, .int .i64 bk, .int .i64 lx, .int .i64 fm, .int .i64 hd, .bool fo, .bool sk, .str ins]), (1, .own nodeTy t), (2, .own intTy op)] (shortN t ∧ nm.length ≤ 100000)
  (.bool (isE t (topS op) nm)) [(0, .box [.own 1, .own 2, .nils, .int .i64 md, .int .i64 bk, .int .i64 lx, .int .i64 fm, .int .i64 hd, .bool fo, .bool sk, .str ins]), (1, .own nodeTy t), (2, .own intTy op)] := by
 refine FnM.intro (N := 16) [0, 1, 4] [(1, [0, 0, 0, 1, 0, 0, 0, 1, 1, 0, 3, 3])] 3 Tryz.call16 Tryz.func16 rfl rfl (by kernel_rfl) (fun hpre => ?_)
 repeat' ((conv => whnf);first|(with_reducible first|rfl|exact absTF|exact absFT)|exact True.intro|intro _|refine And.intro ?_ ?_|refine Fin.mk ?_|refine W1 rfl ?_ ?_|refine W2 rfl ?_ ?_|refine W3 rfl ?_ ?_|refine W4 ?_ ?_|refine W5 rfl ?_ ?_|refine W6 ?_ ?_|refine AppN.mk ?_|refine X1 (W1 rfl ?_ ?_)|refine X1 (W2 rfl ?_ ?_)|refine X2 (W7 rfl ?_ ?_)|refine X3 (W7 rfl ?_ ?_)|refine X4 (W7 rfl ?_ ?_)|refine X5 (W7 rfl ?_ ?_))
 all_goals (try (conv => whnf))
 all_goals (try first|exact Ob.mk (u8_bnd _)|(refine Ob.mk ?_;first|exact True.intro|assumption|omega|(try simp only [ZA,ZB,ZC,ZD,ZE,ZF,ZG,ZH,ZI,ZJ,ZK,ZL,ZM,ZN,ZO,Int.toNat_natCast,UInt8.ofNat_toNat,cast_eq] at *;omega)))
 all_goals (try first|(show (_:Int) = _;omega)|(show tupSV _ = _;with_unfolding_all rfl)|((first|show (_:Nat) ≤ _|show (_:Nat) ≤ _ ∧ (_:Nat) ≤ _|show (_:Int) ≤ _ ∧ (_:Int) ≤ _ ∧ (_:Int) ≤ _ ∧ (_:Int) ≤ _);(simp <;> omega)))
 all_goals (first | exact hpre | exact trivial | trace_state)
end Go.Vc

namespace Go.Vc
open Go.Proofs
set_option maxRecDepth 10000
set_option maxHeartbeats 4000000
instance qSame14 (a b : List NodeD) : Fn BB 53 [.agg [.rd nodeTy a], .agg [.rd nodeTy b]] (smallT a = true ∧ smallT b = true) (.bool (eqB (tidyT a) (tidyT b))) := by
 refine Fn.intro (N := 10) [0, 1, 2, 3, 4] [(1, [1, 1, 1, 3, 3, 3])] Tryz.call53 Tryz.func53 rfl rfl (by kernel_rfl) (fun hpre => ?_)
 obtain ⟨h1, h2⟩ := hpre
 repeat' ((conv => whnf);first|(with_reducible first|rfl|exact absTF|exact absFT)|exact True.intro|intro _|refine And.intro ?_ ?_|refine Fin.mk ?_|refine W1 rfl ?_ ?_|refine W2 rfl ?_ ?_|refine W3 rfl ?_ ?_|refine W4 ?_ ?_|refine W5 rfl ?_ ?_|refine W6 ?_ ?_|refine AppN.mk ?_|refine X1 (W1 rfl ?_ ?_)|refine X1 (W2 rfl ?_ ?_)|refine X2 (W7 rfl ?_ ?_)|refine X3 (W7 rfl ?_ ?_)|refine X4 (W7 rfl ?_ ?_)|refine X5 (W7 rfl ?_ ?_))
 all_goals (try (conv => whnf))
 all_goals (try first|exact Ob.mk (u8_bnd _)|(refine Ob.mk ?_;first|exact True.intro|assumption|omega|(try simp only [ZA,ZB,ZC,ZD,ZE,ZF,ZG,ZH,ZI,ZJ,ZK,ZL,ZM,ZN,ZO,Int.toNat_natCast,UInt8.ofNat_toNat,cast_eq] at *;omega)))
 all_goals (try first|(show (_:Int) = _;omega)|(show tupSV _ = _;with_unfolding_all rfl)|((first|show (_:Nat) ≤ _|show (_:Nat) ≤ _ ∧ (_:Nat) ≤ _|show (_:Int) ≤ _ ∧ (_:Int) ≤ _ ∧ (_:Int) ≤ _ ∧ (_:Int) ≤ _);(simp <;> omega)))
 all_goals (first | exact h1 | exact h2 | rfl | trace_state)
def numB (L : List Int) (i : Int) : Int := bif i == -1 then -1 else bif decide (ixOf L i < 0) then -2 else ixOf L i
def numT (t : List NodeD) (l : List Int) : List Int := l.map (numB (natI (fin t).L))
theorem numT_snoc (t : List NodeD) (l : List Int) (i : Nat) (h : i < l.length) : numT t (l.take (i + 1)) = numT t (l.take i) ++ [numB (natI (fin t).L) (l.getD i 0)] := by
 unfold numT; rw [take_snoc l i 0 h, List.map_append]; rfl
theorem numT_len (t : List NodeD) (l : List Int) (i : Nat) : (numT t (l.take i)).length ≤ i := by
 unfold numT; rw [List.length_map, List.length_take]; omega
instance qNumbered (t : List NodeD) (l : List Int) : FnM BB 51 [.agg [.rd nodeTy t], .rd intTy l] [] (t.length ≤ 45 ∧ l.length ≤ 10000) (.own 0) [(0, .own intTy (numT t l))] := by
 refine FnM.intro (N := 37) [0, 1, 2, 4, 5, 6, 8, 9, 12, 13, 14, 15, 22, 27] [] 0 Tryz.call51 Tryz.func51 rfl rfl (by kernel_rfl) (fun hpre => ?_)
 obtain ⟨h1, h2⟩ := hpre
 repeat' ((conv => whnf);first|(with_reducible first|rfl|exact absTF|exact absFT)|exact True.intro|intro _|refine And.intro ?_ ?_|refine Fin.mk ?_|refine W1 rfl ?_ ?_|refine W2 rfl ?_ ?_|refine W3 rfl ?_ ?_|refine W4 ?_ ?_|refine W5 rfl ?_ ?_|refine W6 ?_ ?_|refine AppN.mk ?_|refine X1 (W1 rfl ?_ ?_)|refine X1 (W2 rfl ?_ ?_)|refine X2 (W7 rfl ?_ ?_)|refine X3 (W7 rfl ?_ ?_)|refine X4 (W7 rfl ?_ ?_)|refine X5 (W7 rfl ?_ ?_))
 all_goals (try (conv => whnf))
 all_goals (try first|exact Ob.mk (u8_bnd _)|(refine Ob.mk ?_;first|exact True.intro|assumption|omega|(try simp only [ZA,ZB,ZC,ZD,ZE,ZF,ZG,ZH,ZI,ZJ,ZK,ZL,ZM,ZN,ZO,Int.toNat_natCast,UInt8.ofNat_toNat,cast_eq] at *;omega)))
 all_goals (try first|(show (_:Int) = _;omega)|(show tupSV _ = _;with_unfolding_all rfl)|((first|show (_:Nat) ≤ _|show (_:Nat) ≤ _ ∧ (_:Nat) ≤ _|show (_:Int) ≤ _ ∧ (_:Int) ≤ _ ∧ (_:Int) ≤ _ ∧ (_:Int) ≤ _);(simp <;> omega)))
 refine LoopStop.mk (α := Nat) (fun i => [(14, .int .i64 i), (5, .own 30)]) (fun i => [(30, .own intTy (numT t (l.take i)))]) 60 (fun i => i ≤ l.length) (fun i => l.length - i) 0 (Nat.zero_le _) ?_ (fun i hi => ?_)
 ·repeat' ((conv => whnf);first|(with_reducible first|rfl|exact absTF|exact absFT)|exact True.intro|intro _|refine And.intro ?_ ?_|refine Fin.mk ?_|refine W1 rfl ?_ ?_|refine W2 rfl ?_ ?_|refine W3 rfl ?_ ?_|refine W4 ?_ ?_|refine W5 rfl ?_ ?_|refine W6 ?_ ?_|refine AppN.mk ?_|refine X1 (W1 rfl ?_ ?_)|refine X1 (W2 rfl ?_ ?_)|refine X2 (W7 rfl ?_ ?_)|refine X3 (W7 rfl ?_ ?_)|refine X4 (W7 rfl ?_ ?_)|refine X5 (W7 rfl ?_ ?_))
  all_goals (try (conv => whnf))
  all_goals (try first|exact Ob.mk (u8_bnd _)|(refine Ob.mk ?_;first|exact True.intro|assumption|omega|(try simp only [ZA,ZB,ZC,ZD,ZE,ZF,ZG,ZH,ZI,ZJ,ZK,ZL,ZM,ZN,ZO,Int.toNat_natCast,UInt8.ofNat_toNat,cast_eq] at *;omega)))
  all_goals (try first|(show (_:Int) = _;omega)|(show tupSV _ = _;with_unfolding_all rfl)|((first|show (_:Nat) ≤ _|show (_:Nat) ≤ _ ∧ (_:Nat) ≤ _|show (_:Int) ≤ _ ∧ (_:Int) ≤ _ ∧ (_:Int) ≤ _ ∧ (_:Int) ≤ _);(simp <;> omega)))
  all_goals (try rfl)
 ·have hln := numT_len t l i
  repeat' ((conv => whnf);first|(with_reducible first|rfl|exact absTF|exact absFT)|exact True.intro|intro _|refine And.intro ?_ ?_|refine Fin.mk ?_|refine W1 rfl ?_ ?_|refine W2 rfl ?_ ?_|refine W3 rfl ?_ ?_|refine W4 ?_ ?_|refine W5 rfl ?_ ?_|refine W6 ?_ ?_|refine AppN.mk ?_|refine X1 (W1 rfl ?_ ?_)|refine X1 (W2 rfl ?_ ?_)|refine X2 (W7 rfl ?_ ?_)|refine X3 (W7 rfl ?_ ?_)|refine X4 (W7 rfl ?_ ?_)|refine X5 (W7 rfl ?_ ?_))
  all_goals (try (conv => whnf))
  all_goals (try first|exact Ob.mk (u8_bnd _)|(refine Ob.mk ?_;first|exact True.intro|assumption|omega|(try simp only [ZA,ZB,ZC,ZD,ZE,ZF,ZG,ZH,ZI,ZJ,ZK,ZL,ZM,ZN,ZO,Int.toNat_natCast,UInt8.ofNat_toNat,cast_eq] at *;omega)))
  all_goals (try first|(show (_:Int) = _;omega)|(show tupSV _ = _;with_unfolding_all rfl)|((first|show (_:Nat) ≤ _|show (_:Nat) ≤ _ ∧ (_:Nat) ≤ _|show (_:Int) ≤ _ ∧ (_:Int) ≤ _ ∧ (_:Int) ≤ _ ∧ (_:Int) ≤ _);(simp <;> omega)))
  all_goals (try simp only [Int.toNat_natCast] at *)
  ·rename_i c1 c2
   have hil : i < l.length := by have h := of_decide_eq_true c1; omega
   have e : numB (natI (fin t).L) (l.getD i 0) = -1 := by unfold numB; rw [show (l.getD i 0 == -1) = true from c2]; rfl
   refine Rnd.mk ⟨i + 1, by omega, by omega, ?_⟩
   repeat' ((conv => whnf);first|(with_reducible first|rfl|exact absTF|exact absFT)|exact True.intro|intro _|refine And.intro ?_ ?_|refine Fin.mk ?_|refine W1 rfl ?_ ?_|refine W2 rfl ?_ ?_|refine W3 rfl ?_ ?_|refine W4 ?_ ?_|refine W5 rfl ?_ ?_|refine W6 ?_ ?_|refine AppN.mk ?_|refine X1 (W1 rfl ?_ ?_)|refine X1 (W2 rfl ?_ ?_)|refine X2 (W7 rfl ?_ ?_)|refine X3 (W7 rfl ?_ ?_)|refine X4 (W7 rfl ?_ ?_)|refine X5 (W7 rfl ?_ ?_))
   all_goals (try (conv => whnf))
   all_goals (try first|exact Ob.mk (u8_bnd _)|(refine Ob.mk ?_;first|exact True.intro|assumption|omega|(try simp only [ZA,ZB,ZC,ZD,ZE,ZF,ZG,ZH,ZI,ZJ,ZK,ZL,ZM,ZN,ZO,Int.toNat_natCast,UInt8.ofNat_toNat,cast_eq] at *;omega)))
   all_goals (try first|(show (_:Int) = _;omega)|(show tupSV _ = _;with_unfolding_all rfl)|((first|show (_:Nat) ≤ _|show (_:Nat) ≤ _ ∧ (_:Nat) ≤ _|show (_:Int) ≤ _ ∧ (_:Int) ≤ _ ∧ (_:Int) ≤ _ ∧ (_:Int) ≤ _);(simp <;> omega)))
   all_goals (first | rfl | (rw [numT_snoc t l i hil, e]; done) | (rw [numT_snoc t l i hil, e]; rfl))
  ·rename_i c1 c2 c3
   have hil : i < l.length := by have h := of_decide_eq_true c1; omega
   have e : numB (natI (fin t).L) (l.getD i 0) = -2 := by unfold numB; rw [show (l.getD i 0 == -1) = false from c2, show decide (ixOf (natI (fin t).L) (l.getD i 0) < 0) = true from c3]; rfl
   refine Rnd.mk ⟨i + 1, by omega, by omega, ?_⟩
   repeat' ((conv => whnf);first|(with_reducible first|rfl|exact absTF|exact absFT)|exact True.intro|intro _|refine And.intro ?_ ?_|refine Fin.mk ?_|refine W1 rfl ?_ ?_|refine W2 rfl ?_ ?_|refine W3 rfl ?_ ?_|refine W4 ?_ ?_|refine W5 rfl ?_ ?_|refine W6 ?_ ?_|refine AppN.mk ?_|refine X1 (W1 rfl ?_ ?_)|refine X1 (W2 rfl ?_ ?_)|refine X2 (W7 rfl ?_ ?_)|refine X3 (W7 rfl ?_ ?_)|refine X4 (W7 rfl ?_ ?_)|refine X5 (W7 rfl ?_ ?_))
   all_goals (try (conv => whnf))
   all_goals (try first|exact Ob.mk (u8_bnd _)|(refine Ob.mk ?_;first|exact True.intro|assumption|omega|(try simp only [ZA,ZB,ZC,ZD,ZE,ZF,ZG,ZH,ZI,ZJ,ZK,ZL,ZM,ZN,ZO,Int.toNat_natCast,UInt8.ofNat_toNat,cast_eq] at *;omega)))
   all_goals (try first|(show (_:Int) = _;omega)|(show tupSV _ = _;with_unfolding_all rfl)|((first|show (_:Nat) ≤ _|show (_:Nat) ≤ _ ∧ (_:Nat) ≤ _|show (_:Int) ≤ _ ∧ (_:Int) ≤ _ ∧ (_:Int) ≤ _ ∧ (_:Int) ≤ _);(simp <;> omega)))
   all_goals (first | rfl | (rw [numT_snoc t l i hil, e]; done) | (rw [numT_snoc t l i hil, e]; rfl))
  ·rename_i c1 c2 c3
   have hil : i < l.length := by have h := of_decide_eq_true c1; omega
   have e : numB (natI (fin t).L) (l.getD i 0) = ixOf (natI (fin t).L) (l.getD i 0) := by unfold numB; rw [show (l.getD i 0 == -1) = false from c2, show decide (ixOf (natI (fin t).L) (l.getD i 0) < 0) = false from c3]; rfl
   refine Rnd.mk ⟨i + 1, by omega, by omega, ?_⟩
   repeat' ((conv => whnf);first|(with_reducible first|rfl|exact absTF|exact absFT)|exact True.intro|intro _|refine And.intro ?_ ?_|refine Fin.mk ?_|refine W1 rfl ?_ ?_|refine W2 rfl ?_ ?_|refine W3 rfl ?_ ?_|refine W4 ?_ ?_|refine W5 rfl ?_ ?_|refine W6 ?_ ?_|refine AppN.mk ?_|refine X1 (W1 rfl ?_ ?_)|refine X1 (W2 rfl ?_ ?_)|refine X2 (W7 rfl ?_ ?_)|refine X3 (W7 rfl ?_ ?_)|refine X4 (W7 rfl ?_ ?_)|refine X5 (W7 rfl ?_ ?_))
   all_goals (try (conv => whnf))
   all_goals (try first|exact Ob.mk (u8_bnd _)|(refine Ob.mk ?_;first|exact True.intro|assumption|omega|(try simp only [ZA,ZB,ZC,ZD,ZE,ZF,ZG,ZH,ZI,ZJ,ZK,ZL,ZM,ZN,ZO,Int.toNat_natCast,UInt8.ofNat_toNat,cast_eq] at *;omega)))
   all_goals (try first|(show (_:Int) = _;omega)|(show tupSV _ = _;with_unfolding_all rfl)|((first|show (_:Nat) ≤ _|show (_:Nat) ≤ _ ∧ (_:Nat) ≤ _|show (_:Int) ≤ _ ∧ (_:Int) ≤ _ ∧ (_:Int) ≤ _ ∧ (_:Int) ≤ _);(simp <;> omega)))
   all_goals (first | rfl | (rw [numT_snoc t l i hil, e]; done) | (rw [numT_snoc t l i hil, e]; rfl))
  ·rename_i c1
   have hil : i = l.length := by have h := of_decide_eq_false c1; omega
   rw [hil, List.take_length]
instance qNumNil (t : List NodeD) : FnM BB 51 [.agg [.rd nodeTy t], .nils] [] (t.length ≤ 45) (.own 0) [(0, .own intTy [])] := by
 refine FnM.intro (N := 37) [0, 1, 2, 4, 5, 6, 8, 9, 12, 13, 14, 15, 22, 27] [] 0 Tryz.call51 Tryz.func51 rfl rfl (by kernel_rfl) (fun hpre => ?_)
 repeat' ((conv => whnf);first|(with_reducible first|rfl|exact absTF|exact absFT)|exact True.intro|intro _|refine And.intro ?_ ?_|refine Fin.mk ?_|refine W1 rfl ?_ ?_|refine W2 rfl ?_ ?_|refine W3 rfl ?_ ?_|refine W4 ?_ ?_|refine W5 rfl ?_ ?_|refine W6 ?_ ?_|refine AppN.mk ?_|refine X1 (W1 rfl ?_ ?_)|refine X1 (W2 rfl ?_ ?_)|refine X2 (W7 rfl ?_ ?_)|refine X3 (W7 rfl ?_ ?_)|refine X4 (W7 rfl ?_ ?_)|refine X5 (W7 rfl ?_ ?_))
 all_goals (try (conv => whnf))
 all_goals (try first|exact Ob.mk (u8_bnd _)|(refine Ob.mk ?_;first|exact True.intro|assumption|omega|(try simp only [ZA,ZB,ZC,ZD,ZE,ZF,ZG,ZH,ZI,ZJ,ZK,ZL,ZM,ZN,ZO,Int.toNat_natCast,UInt8.ofNat_toNat,cast_eq] at *;omega)))
 all_goals (try first|(show (_:Int) = _;omega)|(show tupSV _ = _;with_unfolding_all rfl)|((first|show (_:Nat) ≤ _|show (_:Nat) ≤ _ ∧ (_:Nat) ≤ _|show (_:Int) ≤ _ ∧ (_:Int) ≤ _ ∧ (_:Int) ≤ _ ∧ (_:Int) ≤ _);(simp <;> omega)))
 refine LoopStop.unroll 1 ?_
 repeat' ((conv => whnf);first|(with_reducible first|rfl|exact absTF|exact absFT)|exact True.intro|(intro hq;(try (exfalso;revert hq;decide +kernel)))|refine And.intro ?_ ?_|refine Fin.mk ?_|refine W1 rfl ?_ ?_|refine W2 rfl ?_ ?_|refine W3 rfl ?_ ?_|refine W4 ?_ ?_|refine W5 rfl ?_ ?_|refine W6 ?_ ?_|refine AppN.mk ?_|refine X1 (W1 rfl ?_ ?_)|refine X1 (W2 rfl ?_ ?_)|refine X2 (W7 rfl ?_ ?_)|refine X3 (W7 rfl ?_ ?_)|refine X4 (W7 rfl ?_ ?_)|refine X5 (W7 rfl ?_ ?_))
 all_goals (try (conv => whnf))
 all_goals (try first|exact Ob.mk (u8_bnd _)|(refine Ob.mk ?_;first|exact True.intro|assumption|omega|(try simp only [ZA,ZB,ZC,ZD,ZE,ZF,ZG,ZH,ZI,ZJ,ZK,ZL,ZM,ZN,ZO,Int.toNat_natCast,UInt8.ofNat_toNat,cast_eq] at *;omega)))
 all_goals (try first|(show (_:Int) = _;omega)|(show tupSV _ = _;with_unfolding_all rfl)|((first|show (_:Nat) ≤ _|show (_:Nat) ≤ _ ∧ (_:Nat) ≤ _|show (_:Int) ≤ _ ∧ (_:Int) ≤ _ ∧ (_:Int) ≤ _ ∧ (_:Int) ≤ _);(simp <;> omega)))
 all_goals trace_state
 all_goals (try rfl)
instance qSame (t : List NodeD) (op : List Int) (md bk lx fm hd : Int) (fo sk : Bool) (ins : List UInt8) :
    FnM BB 14 [.loc 0 0, .loc 3 0]
      [(0, .box [.own 1, .own 2, .nils, .int .i64 md, .int .i64 bk, .int .i64 lx, .int .i64 fm, .int .i64 hd, .bool fo, .bool sk, .str ins]), (1, .own nodeTy t), (2, .own intTy op),
       (3, .box [.own 4, .own 5, .nils, .int .i64 md, .int .i64 bk, .int .i64 lx, .int .i64 fm, .int .i64 hd, .bool fo, .bool sk, .str ins]), (4, .own nodeTy t), (5, .own intTy op)]
      (t.length ≤ 45 ∧ smallT t = true ∧ op.length ≤ 1000)
      (.bool true)
      [(0, .box [.own 1, .own 2, .nils, .int .i64 md, .int .i64 bk, .int .i64 lx, .int .i64 fm, .int .i64 hd, .bool fo, .bool sk, .str ins]), (1, .own nodeTy t), (2, .own intTy op),
       (3, .box [.own 4, .own 5, .nils, .int .i64 md, .int .i64 bk, .int .i64 lx, .int .i64 fm, .int .i64 hd, .bool fo, .bool sk, .str ins]), (4, .own nodeTy t), (5, .own intTy op)] := by
  refine FnM.intro (N := 148) [0, 1, 4, 5, 6, 74] [(1, [0, 0, 0, 1, 1, 1, 1, 1, 1, 1, 1, 1, 1, 1, 1, 1, 1, 1, 1, 1, 1, 1, 1, 1, 1, 1, 1, 1, 1, 1, 1, 1, 1, 1, 1, 1, 1, 1, 1, 1, 1, 1, 1, 1, 1, 1, 1, 1, 1, 1, 1, 1, 1, 1, 1, 1, 1, 1, 1, 1, 1, 1, 1, 1, 1, 1, 3, 3]), (3, [0, 0, 0, 7, 0, 0, 0, 7, 0, 0, 0, 7, 4, 0, 0, 0, 7, 4, 4, 4]), (4, [0, 0, 0, 7, 0, 0, 0, 7, 0, 0, 0, 7, 4, 0, 0, 0, 7, 4, 4, 4]), (5, [0, 0, 1, 1, 1, 1, 1, 1, 1, 1, 1, 1, 1, 1, 1, 1, 1, 1, 1, 1, 1, 1, 1, 1, 1, 1, 1, 1, 1, 1, 1, 1, 1, 3, 3, 3]), (3000003, [1100,1169,1234]), (3000004, [1100,1169,1234])] 6 Tryz.call14 Tryz.func14 rfl rfl (by kernel_rfl) (fun hpre => ?_)
  obtain ⟨h1, h2, h3⟩ := hpre
  repeat' ((conv => whnf);first|(with_reducible first|rfl|exact absTF|exact absFT)|exact True.intro|intro _|refine And.intro ?_ ?_|refine Fin.mk ?_|refine W1 rfl ?_ ?_|refine W2 rfl ?_ ?_|refine W3 rfl ?_ ?_|refine W4 ?_ ?_|refine W5 rfl ?_ ?_|refine W6 ?_ ?_|refine AppN.mk ?_|refine X1 (W1 rfl ?_ ?_)|refine X1 (W2 rfl ?_ ?_)|refine X2 (W7 rfl ?_ ?_)|refine X3 (W7 rfl ?_ ?_)|refine X4 (W7 rfl ?_ ?_)|refine X5 (W7 rfl ?_ ?_))
  all_goals (try (conv => whnf))
  all_goals (try first|exact Ob.mk (u8_bnd _)|(refine Ob.mk ?_;first|exact True.intro|assumption|omega|(try simp only [ZA,ZB,ZC,ZD,ZE,ZF,ZG,ZH,ZI,ZJ,ZK,ZL,ZM,ZN,ZO,Int.toNat_natCast,UInt8.ofNat_toNat,cast_eq] at *;omega)))
  all_goals (try first|(show (_:Int) = _;omega)|(show tupSV _ = _;with_unfolding_all rfl)|((first|show (_:Nat) ≤ _|show (_:Nat) ≤ _ ∧ (_:Nat) ≤ _|show (_:Int) ≤ _ ∧ (_:Int) ≤ _ ∧ (_:Int) ≤ _ ∧ (_:Int) ≤ _);(simp <;> omega)))
  · have h := ‹(false || md != md || bk != bk || lx != lx || !fo == fo || !sk == sk || !ins == ins) = true›
    exfalso
    simp at h
  refine ZStop.mk [(5, .own 80)] [(80, .own intTy (numT t ([fm, hd] ++ op)))] 100 ?_
  repeat' ((conv => whnf);first|(with_reducible first|rfl|exact absTF|exact absFT)|exact True.intro|intro _|refine And.intro ?_ ?_|refine Fin.mk ?_|refine W1 rfl ?_ ?_|refine W2 rfl ?_ ?_|refine W3 rfl ?_ ?_|refine W4 ?_ ?_|refine W5 rfl ?_ ?_|refine W6 ?_ ?_|refine AppN.mk ?_|refine X1 (W1 rfl ?_ ?_)|refine X1 (W2 rfl ?_ ?_)|refine X2 (W7 rfl ?_ ?_)|refine X3 (W7 rfl ?_ ?_)|refine X4 (W7 rfl ?_ ?_)|refine X5 (W7 rfl ?_ ?_))
  all_goals (try (conv => whnf))
  all_goals (try first|exact Ob.mk (u8_bnd _)|(refine Ob.mk ?_;first|exact True.intro|assumption|omega|(try simp only [ZA,ZB,ZC,ZD,ZE,ZF,ZG,ZH,ZI,ZJ,ZK,ZL,ZM,ZN,ZO,Int.toNat_natCast,UInt8.ofNat_toNat,cast_eq] at *;omega)))
  all_goals (try first|(show (_:Int) = _;omega)|(show tupSV _ = _;with_unfolding_all rfl)|((first|show (_:Nat) ≤ _|show (_:Nat) ≤ _ ∧ (_:Nat) ≤ _|show (_:Int) ≤ _ ∧ (_:Int) ≤ _ ∧ (_:Int) ≤ _ ∧ (_:Int) ≤ _);(simp <;> omega)))
  any_goals (refine Rnd.mk (p := matK _ _ _ _ _) ?_)
  repeat' ((conv => whnf);first|(with_reducible first|rfl|exact absTF|exact absFT)|exact True.intro|intro _|refine And.intro ?_ ?_|refine Fin.mk ?_|refine W1 rfl ?_ ?_|refine W2 rfl ?_ ?_|refine W3 rfl ?_ ?_|refine W4 ?_ ?_|refine W5 rfl ?_ ?_|refine W6 ?_ ?_|refine AppN.mk ?_|refine X1 (W1 rfl ?_ ?_)|refine X1 (W2 rfl ?_ ?_)|refine X2 (W7 rfl ?_ ?_)|refine X3 (W7 rfl ?_ ?_)|refine X4 (W7 rfl ?_ ?_)|refine X5 (W7 rfl ?_ ?_))
  all_goals (try (conv => whnf))
  refine ZStop.mk [(6, .own 81)] [(81, .own intTy (numT t ([fm, hd] ++ op)))] 120 ?_
  repeat' ((conv => whnf);first|(with_reducible first|rfl|exact absTF|exact absFT)|exact True.intro|intro _|refine And.intro ?_ ?_|refine Fin.mk ?_|refine W1 rfl ?_ ?_|refine W2 rfl ?_ ?_|refine W3 rfl ?_ ?_|refine W4 ?_ ?_|refine W5 rfl ?_ ?_|refine W6 ?_ ?_|refine AppN.mk ?_|refine X1 (W1 rfl ?_ ?_)|refine X1 (W2 rfl ?_ ?_)|refine X2 (W7 rfl ?_ ?_)|refine X3 (W7 rfl ?_ ?_)|refine X4 (W7 rfl ?_ ?_)|refine X5 (W7 rfl ?_ ?_))
  all_goals (try (conv => whnf))
  all_goals (try first|exact Ob.mk (u8_bnd _)|(refine Ob.mk ?_;first|exact True.intro|assumption|omega|(try simp only [ZA,ZB,ZC,ZD,ZE,ZF,ZG,ZH,ZI,ZJ,ZK,ZL,ZM,ZN,ZO,Int.toNat_natCast,UInt8.ofNat_toNat,cast_eq] at *;omega)))
  all_goals (try first|(show (_:Int) = _;omega)|(show tupSV _ = _;with_unfolding_all rfl)|((first|show (_:Nat) ≤ _|show (_:Nat) ≤ _ ∧ (_:Nat) ≤ _|show (_:Int) ≤ _ ∧ (_:Int) ≤ _ ∧ (_:Int) ≤ _ ∧ (_:Int) ≤ _);(simp <;> omega)))
  any_goals (refine Rnd.mk (p := matK _ _ _ _ _) ?_)
  repeat' ((conv => whnf);first|(with_reducible first|rfl|exact absTF|exact absFT)|exact True.intro|intro _|refine And.intro ?_ ?_|refine Fin.mk ?_|refine W1 rfl ?_ ?_|refine W2 rfl ?_ ?_|refine W3 rfl ?_ ?_|refine W4 ?_ ?_|refine W5 rfl ?_ ?_|refine W6 ?_ ?_|refine AppN.mk ?_|refine X1 (W1 rfl ?_ ?_)|refine X1 (W2 rfl ?_ ?_)|refine X2 (W7 rfl ?_ ?_)|refine X3 (W7 rfl ?_ ?_)|refine X4 (W7 rfl ?_ ?_)|refine X5 (W7 rfl ?_ ?_))
  all_goals (try (conv => whnf))
  all_goals (try first|exact Ob.mk (u8_bnd _)|(refine Ob.mk ?_;first|exact True.intro|assumption|omega|(try simp only [ZA,ZB,ZC,ZD,ZE,ZF,ZG,ZH,ZI,ZJ,ZK,ZL,ZM,ZN,ZO,Int.toNat_natCast,UInt8.ofNat_toNat,cast_eq] at *;omega)))
  all_goals (try first|(show (_:Int) = _;omega)|(show tupSV _ = _;with_unfolding_all rfl)|((first|show (_:Nat) ≤ _|show (_:Nat) ≤ _ ∧ (_:Nat) ≤ _|show (_:Int) ≤ _ ∧ (_:Int) ≤ _ ∧ (_:Int) ≤ _ ∧ (_:Int) ≤ _);(simp <;> omega)))
  · exact h2
  · exact h2
  · rw [← eqB_true (rfl : tidyT t = tidyT t), beq_self_eq_true]; rfl
end Go.Vc

namespace Go.Vc
open Go.Proofs
set_option maxRecDepth 10000
set_option maxHeartbeats 4000000
instance s59m (t : List NodeD) (l : List Int) (nm : List UInt8) : FnM BB 64 [.agg [.rd nodeTy t], .rd intTy l, .str nm] [] (shortN t ∧ nm.length ≤ 100000 ∧ l.length ≤ 100000) (.own 0) [(0, .own intTy (l.take (cutR (fun x => !isE t x nm) l l.length)))] := by
 refine FnM.intro (N := 10) [0, 1, 2, 3, 5, 6] [] 0 Tryz.call64 Tryz.func64 rfl rfl (by kernel_rfl) (fun hpre => ?_)
 repeat' ((conv => whnf);first|(with_reducible first|rfl|exact absTF|exact absFT)|exact True.intro|intro _|refine And.intro ?_ ?_|refine Fin.mk ?_|refine W1 rfl ?_ ?_|refine W2 rfl ?_ ?_|refine W3 rfl ?_ ?_|refine W4 ?_ ?_|refine W5 rfl ?_ ?_|refine W6 ?_ ?_|refine AppN.mk ?_|refine X1 (W1 rfl ?_ ?_)|refine X1 (W2 rfl ?_ ?_)|refine X2 (W7 rfl ?_ ?_)|refine X3 (W7 rfl ?_ ?_)|refine X4 (W7 rfl ?_ ?_)|refine X5 (W7 rfl ?_ ?_))
 all_goals (try (conv => whnf))
 all_goals (try first|exact Ob.mk (u8_bnd _)|(refine Ob.mk ?_;first|exact True.intro|assumption|omega|(try simp only [ZA,ZB,ZC,ZD,ZE,ZF,ZG,ZH,ZI,ZJ,ZK,ZL,ZM,ZN,ZO,Int.toNat_natCast,UInt8.ofNat_toNat,cast_eq] at *;omega)))
 all_goals (try first|(show (_:Int) = _;omega)|(show tupSV _ = _;with_unfolding_all rfl)|((first|show (_:Nat) ≤ _|show (_:Nat) ≤ _ ∧ (_:Nat) ≤ _|show (_:Int) ≤ _ ∧ (_:Int) ≤ _ ∧ (_:Int) ≤ _ ∧ (_:Int) ≤ _);(simp <;> omega)))
 all_goals (try rfl)
instance s57m (t : List NodeD) (l : List Int) (nm : List UInt8) : FnM BB 62 [.agg [.rd nodeTy t], .rd intTy l, .str nm] [] (shortN t ∧ nm.length ≤ 100000 ∧ l.length ≤ 100000) (.own 0) [(0, .own intTy (l.take (cutR (implN t nm) l l.length)))] := by
 refine FnM.intro (N := 10) [0, 1, 2, 3, 5, 6] [] 0 Tryz.call62 Tryz.func62 rfl rfl (by kernel_rfl) (fun hpre => ?_)
 repeat' ((conv => whnf);first|(with_reducible first|rfl|exact absTF|exact absFT)|exact True.intro|intro _|refine And.intro ?_ ?_|refine Fin.mk ?_|refine W1 rfl ?_ ?_|refine W2 rfl ?_ ?_|refine W3 rfl ?_ ?_|refine W4 ?_ ?_|refine W5 rfl ?_ ?_|refine W6 ?_ ?_|refine AppN.mk ?_|refine X1 (W1 rfl ?_ ?_)|refine X1 (W2 rfl ?_ ?_)|refine X2 (W7 rfl ?_ ?_)|refine X3 (W7 rfl ?_ ?_)|refine X4 (W7 rfl ?_ ?_)|refine X5 (W7 rfl ?_ ?_))
 all_goals (try (conv => whnf))
 all_goals (try first|exact Ob.mk (u8_bnd _)|(refine Ob.mk ?_;first|exact True.intro|assumption|omega|(try simp only [ZA,ZB,ZC,ZD,ZE,ZF,ZG,ZH,ZI,ZJ,ZK,ZL,ZM,ZN,ZO,Int.toNat_natCast,UInt8.ofNat_toNat,cast_eq] at *;omega)))
 all_goals (try first|(show (_:Int) = _;omega)|(show tupSV _ = _;with_unfolding_all rfl)|((first|show (_:Nat) ≤ _|show (_:Nat) ≤ _ ∧ (_:Nat) ≤ _|show (_:Int) ≤ _ ∧ (_:Int) ≤ _ ∧ (_:Int) ≤ _ ∧ (_:Int) ≤ _);(simp <;> omega)))
 all_goals (try rfl)
instance s55m (t : List NodeD) (l : List Int) (nm : List UInt8) : FnM BB 60 [.agg [.rd nodeTy t], .rd intTy l, .str nm] [] (shortN t ∧ nm.length ≤ 100000 ∧ l.length ≤ 100000) (.own 0) [(0, .own intTy (l.take (popR (fun x => isE t x nm) l l.length)))] := by
 refine FnM.intro (N := 11) [0, 1, 2, 3, 5, 6, 7] [] 0 Tryz.call60 Tryz.func60 rfl rfl (by kernel_rfl) (fun hpre => ?_)
 repeat' ((conv => whnf);first|(with_reducible first|rfl|exact absTF|exact absFT)|exact True.intro|intro _|refine And.intro ?_ ?_|refine Fin.mk ?_|refine W1 rfl ?_ ?_|refine W2 rfl ?_ ?_|refine W3 rfl ?_ ?_|refine W4 ?_ ?_|refine W5 rfl ?_ ?_|refine W6 ?_ ?_|refine AppN.mk ?_|refine X1 (W1 rfl ?_ ?_)|refine X1 (W2 rfl ?_ ?_)|refine X2 (W7 rfl ?_ ?_)|refine X3 (W7 rfl ?_ ?_)|refine X4 (W7 rfl ?_ ?_)|refine X5 (W7 rfl ?_ ?_))
 all_goals (try (conv => whnf))
 all_goals (try first|exact Ob.mk (u8_bnd _)|(refine Ob.mk ?_;first|exact True.intro|assumption|omega|(try simp only [ZA,ZB,ZC,ZD,ZE,ZF,ZG,ZH,ZI,ZJ,ZK,ZL,ZM,ZN,ZO,Int.toNat_natCast,UInt8.ofNat_toNat,cast_eq] at *;omega)))
 all_goals (try first|(show (_:Int) = _;omega)|(show tupSV _ = _;with_unfolding_all rfl)|((first|show (_:Nat) ≤ _|show (_:Nat) ≤ _ ∧ (_:Nat) ≤ _|show (_:Int) ≤ _ ∧ (_:Int) ≤ _ ∧ (_:Int) ≤ _ ∧ (_:Int) ≤ _);(simp <;> omega)))
 all_goals (try rfl)
instance s56m (t : List NodeD) (l : List Int) (nm : List UInt8) : FnM BB 61 [.agg [.rd nodeTy t], .rd intTy l, .str nm] [] (nm.length ≤ 100000 ∧ l.length ≤ 100000) (.own 0) [(0, .own intTy (l.take (popR (fun x => isE t x nm) l l.length)))] := by
 refine FnM.intro (N := 29) [0, 1, 2, 3, 6, 7, 10, 25] [] 0 Tryz.call61 Tryz.func61 rfl rfl (by kernel_rfl) (fun hpre => ?_)
 repeat' ((conv => whnf);first|(with_reducible first|rfl|exact absTF|exact absFT)|exact True.intro|intro _|refine And.intro ?_ ?_|refine Fin.mk ?_|refine W1 rfl ?_ ?_|refine W2 rfl ?_ ?_|refine W3 rfl ?_ ?_|refine W4 ?_ ?_|refine W5 rfl ?_ ?_|refine W6 ?_ ?_|refine AppN.mk ?_|refine X1 (W1 rfl ?_ ?_)|refine X1 (W2 rfl ?_ ?_)|refine X2 (W7 rfl ?_ ?_)|refine X3 (W7 rfl ?_ ?_)|refine X4 (W7 rfl ?_ ?_)|refine X5 (W7 rfl ?_ ?_))
 all_goals (try (conv => whnf))
 all_goals (try first|exact Ob.mk (u8_bnd _)|(refine Ob.mk ?_;first|exact True.intro|assumption|omega|(try simp only [ZA,ZB,ZC,ZD,ZE,ZF,ZG,ZH,ZI,ZJ,ZK,ZL,ZM,ZN,ZO,Int.toNat_natCast,UInt8.ofNat_toNat,cast_eq] at *;omega)))
 all_goals (try first|(show (_:Int) = _;omega)|(show tupSV _ = _;with_unfolding_all rfl)|((first|show (_:Nat) ≤ _|show (_:Nat) ≤ _ ∧ (_:Nat) ≤ _|show (_:Int) ≤ _ ∧ (_:Int) ≤ _ ∧ (_:Int) ≤ _ ∧ (_:Int) ≤ _);(simp <;> omega)))
 refine LoopStop.mk (α := Nat) (fun n => [(1, .rd intTy (l.take n))]) (fun _ => []) 20 (fun n => n ≤ l.length ∧ popR (fun x => isE t x nm) l l.length = popR (fun x => isE t x nm) l n) (fun n => n) l.length (by simp) ?_ (fun n hC => ?_)
 ·repeat' ((conv => whnf);first|(with_reducible first|rfl|exact absTF|exact absFT)|exact True.intro|intro _|refine And.intro ?_ ?_|refine Fin.mk ?_|refine W1 rfl ?_ ?_|refine W2 rfl ?_ ?_|refine W3 rfl ?_ ?_|refine W4 ?_ ?_|refine W5 rfl ?_ ?_|refine W6 ?_ ?_|refine AppN.mk ?_|refine X1 (W1 rfl ?_ ?_)|refine X1 (W2 rfl ?_ ?_)|refine X2 (W7 rfl ?_ ?_)|refine X3 (W7 rfl ?_ ?_)|refine X4 (W7 rfl ?_ ?_)|refine X5 (W7 rfl ?_ ?_))
  all_goals (try (conv => whnf))
  all_goals (try first|exact Ob.mk (u8_bnd _)|(refine Ob.mk ?_;first|exact True.intro|assumption|omega|(try simp only [ZA,ZB,ZC,ZD,ZE,ZF,ZG,ZH,ZI,ZJ,ZK,ZL,ZM,ZN,ZO,Int.toNat_natCast,UInt8.ofNat_toNat,cast_eq] at *;omega)))
  all_goals (try first|(show (_:Int) = _;omega)|(show tupSV _ = _;with_unfolding_all rfl)|((first|show (_:Nat) ≤ _|show (_:Nat) ≤ _ ∧ (_:Nat) ≤ _|show (_:Int) ≤ _ ∧ (_:Int) ≤ _ ∧ (_:Int) ≤ _ ∧ (_:Int) ≤ _);(simp <;> omega)))
  all_goals (first | rfl | (rw [List.take_of_length_le (Nat.le_refl _)]; done))
 ·obtain ⟨hn, hC⟩ := hC
  have e0 := len_take hn
  have e1 : ((n : Int) - 1).toNat = n - 1 := by omega
  have e2 : 1 < n → (l.take n).getD (n - 1) intTy.dflt = l.getD (n - 1) 0 := fun h => take_getD (by omega)
  repeat' ((conv => whnf);first|(with_reducible first|rfl|exact absTF|exact absFT)|exact True.intro|intro _|refine And.intro ?_ ?_|refine Fin.mk ?_|refine W1 rfl ?_ ?_|refine W2 rfl ?_ ?_|refine W3 rfl ?_ ?_|refine W4 ?_ ?_|refine W5 rfl ?_ ?_|refine W6 ?_ ?_|refine AppN.mk ?_|refine X1 (W1 rfl ?_ ?_)|refine X1 (W2 rfl ?_ ?_)|refine X2 (W7 rfl ?_ ?_)|refine X3 (W7 rfl ?_ ?_)|refine X4 (W7 rfl ?_ ?_)|refine X5 (W7 rfl ?_ ?_))
  all_goals (try (conv => whnf))
  all_goals (try rw [e0] at *)
  all_goals (try rw [e1] at *)
  all_goals (try rw [take_pred] at *)
  all_goals (try first|exact Ob.mk (u8_bnd _)|(refine Ob.mk ?_;first|exact True.intro|assumption|omega|(try simp only [ZA,ZB,ZC,ZD,ZE,ZF,ZG,ZH,ZI,ZJ,ZK,ZL,ZM,ZN,ZO,Int.toNat_natCast,UInt8.ofNat_toNat,cast_eq] at *;omega)))
  all_goals (try first|(show (_:Int) = _;omega)|(show tupSV _ = _;with_unfolding_all rfl)|((first|show (_:Nat) ≤ _|show (_:Nat) ≤ _ ∧ (_:Nat) ≤ _|show (_:Int) ≤ _ ∧ (_:Int) ≤ _ ∧ (_:Int) ≤ _ ∧ (_:Int) ≤ _);(simp <;> omega)))
  ·rename_i h
   have h1 : 1 < n := by have := of_decide_eq_true ‹decide ((n : Int) > 1) = true›; omega
   rw [e2 h1] at h
   rw [hC.trans (popR_hit h1 h)]; rfl
  ·rename_i h
   have h1 : 1 < n := by have := of_decide_eq_true ‹decide ((n : Int) > 1) = true›; omega
   rw [e2 h1] at h
   refine Rnd.mk ⟨n - 1, ⟨by omega, hC.trans (popR_go h1 h)⟩, by omega, ?_, ?_, ?_⟩
   repeat' ((conv => whnf);first|(with_reducible first|rfl|exact absTF|exact absFT)|exact True.intro|intro _|refine And.intro ?_ ?_|refine Fin.mk ?_|refine W1 rfl ?_ ?_|refine W2 rfl ?_ ?_|refine W3 rfl ?_ ?_|refine W4 ?_ ?_|refine W5 rfl ?_ ?_|refine W6 ?_ ?_|refine AppN.mk ?_|refine X1 (W1 rfl ?_ ?_)|refine X1 (W2 rfl ?_ ?_)|refine X2 (W7 rfl ?_ ?_)|refine X3 (W7 rfl ?_ ?_)|refine X4 (W7 rfl ?_ ?_)|refine X5 (W7 rfl ?_ ?_))
   all_goals (try (conv => whnf))
   all_goals (try first|exact Ob.mk (u8_bnd _)|(refine Ob.mk ?_;first|exact True.intro|assumption|omega|(try simp only [ZA,ZB,ZC,ZD,ZE,ZF,ZG,ZH,ZI,ZJ,ZK,ZL,ZM,ZN,ZO,Int.toNat_natCast,UInt8.ofNat_toNat,cast_eq] at *;omega)))
   all_goals (try first|(show (_:Int) = _;omega)|(show tupSV _ = _;with_unfolding_all rfl)|((first|show (_:Nat) ≤ _|show (_:Nat) ≤ _ ∧ (_:Nat) ≤ _|show (_:Int) ≤ _ ∧ (_:Int) ≤ _ ∧ (_:Int) ≤ _ ∧ (_:Int) ≤ _);(simp <;> omega)))
   all_goals (try rfl)
  ·have h1 : ¬ 1 < n := by have := of_decide_eq_false ‹decide ((n : Int) > 1) = false›; omega
   rw [hC.trans (popR_one h1)]; rfl
instance s60m (t : List NodeD) (l : List Int) (nm : List UInt8) : FnM BB 65 [.agg [.rd nodeTy t], .rd intTy l, .str nm] [] (nm.length ≤ 100000 ∧ l.length ≤ 100000) (.own 0) [(0, .own intTy (l.take (cutR (fun x => !isE t x nm) l l.length)))] := by
 refine FnM.intro (N := 30) [0, 1, 2, 3, 6, 21] [(1, [0, 1, 1, 1, 1, 1, 1, 1, 1, 1, 1, 1, 3, 3, 3])] 0 Tryz.call65 Tryz.func65 rfl rfl (by kernel_rfl) (fun hpre => ?_)
 repeat' ((conv => whnf);first|(with_reducible first|rfl|exact absTF|exact absFT)|exact True.intro|intro _|refine And.intro ?_ ?_|refine Fin.mk ?_|refine W1 rfl ?_ ?_|refine W2 rfl ?_ ?_|refine W3 rfl ?_ ?_|refine W4 ?_ ?_|refine W5 rfl ?_ ?_|refine W6 ?_ ?_|refine AppN.mk ?_|refine X1 (W1 rfl ?_ ?_)|refine X1 (W2 rfl ?_ ?_)|refine X2 (W7 rfl ?_ ?_)|refine X3 (W7 rfl ?_ ?_)|refine X4 (W7 rfl ?_ ?_)|refine X5 (W7 rfl ?_ ?_))
 all_goals (try (conv => whnf))
 all_goals (try first|exact Ob.mk (u8_bnd _)|(refine Ob.mk ?_;first|exact True.intro|assumption|omega|(try simp only [ZA,ZB,ZC,ZD,ZE,ZF,ZG,ZH,ZI,ZJ,ZK,ZL,ZM,ZN,ZO,Int.toNat_natCast,UInt8.ofNat_toNat,cast_eq] at *;omega)))
 all_goals (try first|(show (_:Int) = _;omega)|(show tupSV _ = _;with_unfolding_all rfl)|((first|show (_:Nat) ≤ _|show (_:Nat) ≤ _ ∧ (_:Nat) ≤ _|show (_:Int) ≤ _ ∧ (_:Int) ≤ _ ∧ (_:Int) ≤ _ ∧ (_:Int) ≤ _);(simp <;> omega)))
 refine LoopStop.mk (α := Nat) (fun n => [(1, .rd intTy (l.take n))]) (fun _ => []) 20 (fun n => n ≤ l.length ∧ cutR (fun x => !isE t x nm) l l.length = cutR (fun x => !isE t x nm) l n) (fun n => n) l.length (by simp) ?_ (fun n hC => ?_)
 ·repeat' ((conv => whnf);first|(with_reducible first|rfl|exact absTF|exact absFT)|exact True.intro|intro _|refine And.intro ?_ ?_|refine Fin.mk ?_|refine W1 rfl ?_ ?_|refine W2 rfl ?_ ?_|refine W3 rfl ?_ ?_|refine W4 ?_ ?_|refine W5 rfl ?_ ?_|refine W6 ?_ ?_|refine AppN.mk ?_|refine X1 (W1 rfl ?_ ?_)|refine X1 (W2 rfl ?_ ?_)|refine X2 (W7 rfl ?_ ?_)|refine X3 (W7 rfl ?_ ?_)|refine X4 (W7 rfl ?_ ?_)|refine X5 (W7 rfl ?_ ?_))
  all_goals (try (conv => whnf))
  all_goals (try first|exact Ob.mk (u8_bnd _)|(refine Ob.mk ?_;first|exact True.intro|assumption|omega|(try simp only [ZA,ZB,ZC,ZD,ZE,ZF,ZG,ZH,ZI,ZJ,ZK,ZL,ZM,ZN,ZO,Int.toNat_natCast,UInt8.ofNat_toNat,cast_eq] at *;omega)))
  all_goals (try first|(show (_:Int) = _;omega)|(show tupSV _ = _;with_unfolding_all rfl)|((first|show (_:Nat) ≤ _|show (_:Nat) ≤ _ ∧ (_:Nat) ≤ _|show (_:Int) ≤ _ ∧ (_:Int) ≤ _ ∧ (_:Int) ≤ _ ∧ (_:Int) ≤ _);(simp <;> omega)))
  all_goals (first | rfl | (rw [List.take_of_length_le (Nat.le_refl _)]; done))
 ·obtain ⟨hn, hC⟩ := hC
  have e0 := len_take hn
  have e1 : ((n : Int) - 1).toNat = n - 1 := by omega
  have e2 : 1 < n → (l.take n).getD (n - 1) intTy.dflt = l.getD (n - 1) 0 := fun h => take_getD (by omega)
  repeat' ((conv => whnf);first|(with_reducible first|rfl|exact absTF|exact absFT)|exact True.intro|intro _|refine And.intro ?_ ?_|refine Fin.mk ?_|refine W1 rfl ?_ ?_|refine W2 rfl ?_ ?_|refine W3 rfl ?_ ?_|refine W4 ?_ ?_|refine W5 rfl ?_ ?_|refine W6 ?_ ?_|refine AppN.mk ?_|refine X1 (W1 rfl ?_ ?_)|refine X1 (W2 rfl ?_ ?_)|refine X2 (W7 rfl ?_ ?_)|refine X3 (W7 rfl ?_ ?_)|refine X4 (W7 rfl ?_ ?_)|refine X5 (W7 rfl ?_ ?_))
  all_goals (try (conv => whnf))
  all_goals (try rw [e0] at *)
  all_goals (try rw [e1] at *)
  all_goals (try rw [take_pred] at *)
  all_goals (try first|exact Ob.mk (u8_bnd _)|(refine Ob.mk ?_;first|exact True.intro|assumption|omega|(try simp only [ZA,ZB,ZC,ZD,ZE,ZF,ZG,ZH,ZI,ZJ,ZK,ZL,ZM,ZN,ZO,Int.toNat_natCast,UInt8.ofNat_toNat,cast_eq] at *;omega)))
  all_goals (try first|(show (_:Int) = _;omega)|(show tupSV _ = _;with_unfolding_all rfl)|((first|show (_:Nat) ≤ _|show (_:Nat) ≤ _ ∧ (_:Nat) ≤ _|show (_:Int) ≤ _ ∧ (_:Int) ≤ _ ∧ (_:Int) ≤ _ ∧ (_:Int) ≤ _);(simp <;> omega)))
  ·rename_i h hz
   have h1 : 1 < n := by have := of_decide_eq_true (Bool.and_eq_true_iff.1 h).1; omega
   have h2 := (Bool.and_eq_true_iff.1 h).2
   rw [e2 h1] at h2
   refine Rnd.mk ⟨n - 1, ⟨by omega, hC.trans (cutR_go h1 h2)⟩, by omega, ?_, ?_, ?_⟩
   repeat' ((conv => whnf);first|(with_reducible first|rfl|exact absTF|exact absFT)|exact True.intro|intro _|refine And.intro ?_ ?_|refine Fin.mk ?_|refine W1 rfl ?_ ?_|refine W2 rfl ?_ ?_|refine W3 rfl ?_ ?_|refine W4 ?_ ?_|refine W5 rfl ?_ ?_|refine W6 ?_ ?_|refine AppN.mk ?_|refine X1 (W1 rfl ?_ ?_)|refine X1 (W2 rfl ?_ ?_)|refine X2 (W7 rfl ?_ ?_)|refine X3 (W7 rfl ?_ ?_)|refine X4 (W7 rfl ?_ ?_)|refine X5 (W7 rfl ?_ ?_))
   all_goals (try (conv => whnf))
   all_goals (try first|exact Ob.mk (u8_bnd _)|(refine Ob.mk ?_;first|exact True.intro|assumption|omega|(try simp only [ZA,ZB,ZC,ZD,ZE,ZF,ZG,ZH,ZI,ZJ,ZK,ZL,ZM,ZN,ZO,Int.toNat_natCast,UInt8.ofNat_toNat,cast_eq] at *;omega)))
   all_goals (try first|(show (_:Int) = _;omega)|(show tupSV _ = _;with_unfolding_all rfl)|((first|show (_:Nat) ≤ _|show (_:Nat) ≤ _ ∧ (_:Nat) ≤ _|show (_:Int) ≤ _ ∧ (_:Int) ≤ _ ∧ (_:Int) ≤ _ ∧ (_:Int) ≤ _);(simp <;> omega)))
   all_goals (try rfl)
  ·rename_i h
   by_cases h1 : 1 < n
   ·rw [decide_eq_true (by omega), Bool.true_and, e2 h1] at h
    rw [hC.trans (cutR_stop h1 h)]; rfl
   ·rw [hC.trans (cutR_one h1)]; rfl
instance s58m (t : List NodeD) (l : List Int) (nm : List UInt8) : FnM BB 63 [.agg [.rd nodeTy t], .rd intTy l, .str nm] [] (shortN t ∧ nm.length ≤ 100000 ∧ l.length ≤ 100000) (.own 0) [(0, .own intTy (l.take (cutR (implN t nm) l l.length)))] := by
 refine FnM.intro (N := 44) [0, 1, 2, 3, 6, 7, 10, 35] [(2, [0, 0, 0, 0, 0, 0, 0, 6, 6, 6])] 0 Tryz.call63 Tryz.func63 rfl rfl (by kernel_rfl) (fun hpre => ?_)
 repeat' ((conv => whnf);first|(with_reducible first|rfl|exact absTF|exact absFT)|exact True.intro|intro _|refine And.intro ?_ ?_|refine Fin.mk ?_|refine W1 rfl ?_ ?_|refine W2 rfl ?_ ?_|refine W3 rfl ?_ ?_|refine W4 ?_ ?_|refine W5 rfl ?_ ?_|refine W6 ?_ ?_|refine AppN.mk ?_|refine X1 (W1 rfl ?_ ?_)|refine X1 (W2 rfl ?_ ?_)|refine X2 (W7 rfl ?_ ?_)|refine X3 (W7 rfl ?_ ?_)|refine X4 (W7 rfl ?_ ?_)|refine X5 (W7 rfl ?_ ?_))
 all_goals (try (conv => whnf))
 all_goals (try first|exact Ob.mk (u8_bnd _)|(refine Ob.mk ?_;first|exact True.intro|assumption|omega|(try simp only [ZA,ZB,ZC,ZD,ZE,ZF,ZG,ZH,ZI,ZJ,ZK,ZL,ZM,ZN,ZO,Int.toNat_natCast,UInt8.ofNat_toNat,cast_eq] at *;omega)))
 all_goals (try first|(show (_:Int) = _;omega)|(show tupSV _ = _;with_unfolding_all rfl)|((first|show (_:Nat) ≤ _|show (_:Nat) ≤ _ ∧ (_:Nat) ≤ _|show (_:Int) ≤ _ ∧ (_:Int) ≤ _ ∧ (_:Int) ≤ _ ∧ (_:Int) ≤ _);(simp <;> omega)))
 refine LoopStop.mk (α := Nat) (fun n => [(1, .rd intTy (l.take n))]) (fun _ => []) 20 (fun n => n ≤ l.length ∧ cutR (implN t nm) l l.length = cutR (implN t nm) l n) (fun n => n) l.length (by simp) ?_ (fun n hC => ?_)
 ·repeat' ((conv => whnf);first|(with_reducible first|rfl|exact absTF|exact absFT)|exact True.intro|intro _|refine And.intro ?_ ?_|refine Fin.mk ?_|refine W1 rfl ?_ ?_|refine W2 rfl ?_ ?_|refine W3 rfl ?_ ?_|refine W4 ?_ ?_|refine W5 rfl ?_ ?_|refine W6 ?_ ?_|refine AppN.mk ?_|refine X1 (W1 rfl ?_ ?_)|refine X1 (W2 rfl ?_ ?_)|refine X2 (W7 rfl ?_ ?_)|refine X3 (W7 rfl ?_ ?_)|refine X4 (W7 rfl ?_ ?_)|refine X5 (W7 rfl ?_ ?_))
  all_goals (try (conv => whnf))
  all_goals (try first|exact Ob.mk (u8_bnd _)|(refine Ob.mk ?_;first|exact True.intro|assumption|omega|(try simp only [ZA,ZB,ZC,ZD,ZE,ZF,ZG,ZH,ZI,ZJ,ZK,ZL,ZM,ZN,ZO,Int.toNat_natCast,UInt8.ofNat_toNat,cast_eq] at *;omega)))
  all_goals (try first|(show (_:Int) = _;omega)|(show tupSV _ = _;with_unfolding_all rfl)|((first|show (_:Nat) ≤ _|show (_:Nat) ≤ _ ∧ (_:Nat) ≤ _|show (_:Int) ≤ _ ∧ (_:Int) ≤ _ ∧ (_:Int) ≤ _ ∧ (_:Int) ≤ _);(simp <;> omega)))
  all_goals (first | rfl | (rw [List.take_of_length_le (Nat.le_refl _)]; done))
 ·obtain ⟨hn, hC⟩ := hC
  have e0 := len_take hn
  have e1 : ((n : Int) - 1).toNat = n - 1 := by omega
  have e2 : 1 < n → (l.take n).getD (n - 1) intTy.dflt = l.getD (n - 1) 0 := fun h => take_getD (by omega)
  have e3 := hpre.1 ((l.take n).getD (n - 1) intTy.dflt)
  repeat' ((conv => whnf);first|(with_reducible first|rfl|exact absTF|exact absFT)|exact True.intro|intro _|refine And.intro ?_ ?_|refine Fin.mk ?_|refine W1 rfl ?_ ?_|refine W2 rfl ?_ ?_|refine W3 rfl ?_ ?_|refine W4 ?_ ?_|refine W5 rfl ?_ ?_|refine W6 ?_ ?_|refine AppN.mk ?_|refine X1 (W1 rfl ?_ ?_)|refine X1 (W2 rfl ?_ ?_)|refine X2 (W7 rfl ?_ ?_)|refine X3 (W7 rfl ?_ ?_)|refine X4 (W7 rfl ?_ ?_)|refine X5 (W7 rfl ?_ ?_))
  all_goals (try (conv => whnf))
  all_goals (try rw [e0] at *)
  all_goals (try rw [e1] at *)
  all_goals (try rw [take_pred] at *)
  all_goals (try first|exact Ob.mk (u8_bnd _)|(refine Ob.mk ?_;first|exact True.intro|assumption|omega|(try simp only [ZA,ZB,ZC,ZD,ZE,ZF,ZG,ZH,ZI,ZJ,ZK,ZL,ZM,ZN,ZO,Int.toNat_natCast,UInt8.ofNat_toNat,cast_eq] at *;omega)))
  all_goals (try first|(show (_:Int) = _;omega)|(show tupSV _ = _;with_unfolding_all rfl)|((first|show (_:Nat) ≤ _|show (_:Nat) ≤ _ ∧ (_:Nat) ≤ _|show (_:Int) ≤ _ ∧ (_:Int) ≤ _ ∧ (_:Int) ≤ _ ∧ (_:Int) ≤ _);(simp <;> omega)))
  ·rename_i h1 h
   have h1 : 1 < n := by have := of_decide_eq_true h1; omega
   have h : (!implN t nm ((l.take n).getD (n - 1) intTy.dflt)) = true := by rw [implN_neg]; exact h
   rw [e2 h1] at h
   rw [hC.trans (cutR_stop h1 (by simpa using h))]; rfl
  ·rename_i h1 h hz
   have h1 : 1 < n := by have := of_decide_eq_true h1; omega
   have h : (!implN t nm ((l.take n).getD (n - 1) intTy.dflt)) = false := by rw [implN_neg]; exact h
   rw [e2 h1] at h
   refine Rnd.mk ⟨n - 1, ⟨by omega, hC.trans (cutR_go h1 (by simpa using h))⟩, by omega, ?_, ?_, ?_⟩
   repeat' ((conv => whnf);first|(with_reducible first|rfl|exact absTF|exact absFT)|exact True.intro|intro _|refine And.intro ?_ ?_|refine Fin.mk ?_|refine W1 rfl ?_ ?_|refine W2 rfl ?_ ?_|refine W3 rfl ?_ ?_|refine W4 ?_ ?_|refine W5 rfl ?_ ?_|refine W6 ?_ ?_|refine AppN.mk ?_|refine X1 (W1 rfl ?_ ?_)|refine X1 (W2 rfl ?_ ?_)|refine X2 (W7 rfl ?_ ?_)|refine X3 (W7 rfl ?_ ?_)|refine X4 (W7 rfl ?_ ?_)|refine X5 (W7 rfl ?_ ?_))
   all_goals (try (conv => whnf))
   all_goals (try first|exact Ob.mk (u8_bnd _)|(refine Ob.mk ?_;first|exact True.intro|assumption|omega|(try simp only [ZA,ZB,ZC,ZD,ZE,ZF,ZG,ZH,ZI,ZJ,ZK,ZL,ZM,ZN,ZO,Int.toNat_natCast,UInt8.ofNat_toNat,cast_eq] at *;omega)))
   all_goals (try first|(show (_:Int) = _;omega)|(show tupSV _ = _;with_unfolding_all rfl)|((first|show (_:Nat) ≤ _|show (_:Nat) ≤ _ ∧ (_:Nat) ≤ _|show (_:Int) ≤ _ ∧ (_:Int) ≤ _ ∧ (_:Int) ≤ _ ∧ (_:Int) ≤ _);(simp <;> omega)))
   all_goals (try rfl)
  ·rename_i h1
   have h1 : ¬ 1 < n := by have := of_decide_eq_false h1; omega
   rw [hC.trans (cutR_one h1)]; rfl
instance qpPop (t : List NodeD) (op : List Int) (nm : List UInt8) (md bk lx fm hd : Int) (fo sk : Bool) (ins : List UInt8) :
  FnM BB 22 [.loc 0 0, .str nm] [(0, .box [.own 1, .own 2, .nils, .int .i64 md, .int .i64 bk, .int .i64 lx, .int .i64 fm, .int .i64 hd, .bool fo, .bool sk, .str ins]), (1, .own nodeTy t), (2, .own intTy op)] (shortN t ∧ nm.length ≤ 100000 ∧ op.length ≤ 100000)
   (.tup []) [(0, .box [.own 1, .own 2, .nils, .int .i64 md, .int .i64 bk, .int .i64 lx, .int .i64 fm, .int .i64 hd, .bool fo, .bool sk, .str ins]), (1, .own nodeTy t), (2, .own intTy (op.take (popR (fun x => isE t x nm) op op.length)))] := by
 refine FnM.intro (N := 17) [0, 1] [(0, [0, 0, 0, 0, 1, 0, 0, 0, 1, 0, 3, 0, 0, 3])] 3 Tryz.call22 Tryz.func22 rfl rfl (by kernel_rfl) (fun hpre => ?_)
 obtain ⟨h1, h2, h3⟩ := hpre
 repeat' ((conv => whnf);first|(with_reducible first|rfl|exact absTF|exact absFT)|exact True.intro|intro _|refine And.intro ?_ ?_|refine Fin.mk ?_|refine W1 rfl ?_ ?_|refine W2 rfl ?_ ?_|refine W3 rfl ?_ ?_|refine W4 ?_ ?_|refine W5 rfl ?_ ?_|refine W6 ?_ ?_|refine AppN.mk ?_|refine X1 (W1 rfl ?_ ?_)|refine X1 (W2 rfl ?_ ?_)|refine X2 (W7 rfl ?_ ?_)|refine X3 (W7 rfl ?_ ?_)|refine X4 (W7 rfl ?_ ?_)|refine X5 (W7 rfl ?_ ?_))
 all_goals (try (conv => whnf))
 all_goals (try first|exact Ob.mk (u8_bnd _)|(refine Ob.mk ?_;first|exact True.intro|assumption|omega|(try simp only [ZA,ZB,ZC,ZD,ZE,ZF,ZG,ZH,ZI,ZJ,ZK,ZL,ZM,ZN,ZO,Int.toNat_natCast,UInt8.ofNat_toNat,cast_eq] at *;omega)))
 all_goals (try first|(show (_:Int) = _;omega)|(show tupSV _ = _;with_unfolding_all rfl)|((first|show (_:Nat) ≤ _|show (_:Nat) ≤ _ ∧ (_:Nat) ≤ _|show (_:Int) ≤ _ ∧ (_:Int) ≤ _ ∧ (_:Int) ≤ _ ∧ (_:Int) ≤ _);(simp <;> omega)))
 all_goals (first | exact ⟨h1, h2, h3⟩ | exact ⟨h2, h3⟩ | rfl | trace_state)
instance qpImplied (t : List NodeD) (op : List Int) (nm : List UInt8) (md bk lx fm hd : Int) (fo sk : Bool) (ins : List UInt8) :
  FnM BB 24 [.loc 0 0, .str nm] [(0, .box [.own 1, .own 2, .nils, .int .i64 md, .int .i64 bk, .int .i64 lx, .int .i64 fm, .int .i64 hd, .bool fo, .bool sk, .str ins]), (1, .own nodeTy t), (2, .own intTy op)] (shortN t ∧ nm.length ≤ 100000 ∧ op.length ≤ 100000)
   (.tup []) [(0, .box [.own 1, .own 2, .nils, .int .i64 md, .int .i64 bk, .int .i64 lx, .int .i64 fm, .int .i64 hd, .bool fo, .bool sk, .str ins]), (1, .own nodeTy t), (2, .own intTy (op.take (cutR (implN t nm) op op.length)))] := by
 refine FnM.intro (N := 17) [0, 1] [(0, [0, 0, 0, 0, 1, 0, 0, 0, 1, 0, 3, 0, 0, 3])] 3 Tryz.call24 Tryz.func24 rfl rfl (by kernel_rfl) (fun hpre => ?_)
 obtain ⟨h1, h2, h3⟩ := hpre
 repeat' ((conv => whnf);first|(with_reducible first|rfl|exact absTF|exact absFT)|exact True.intro|intro _|refine And.intro ?_ ?_|refine Fin.mk ?_|refine W1 rfl ?_ ?_|refine W2 rfl ?_ ?_|refine W3 rfl ?_ ?_|refine W4 ?_ ?_|refine W5 rfl ?_ ?_|refine W6 ?_ ?_|refine AppN.mk ?_|refine X1 (W1 rfl ?_ ?_)|refine X1 (W2 rfl ?_ ?_)|refine X2 (W7 rfl ?_ ?_)|refine X3 (W7 rfl ?_ ?_)|refine X4 (W7 rfl ?_ ?_)|refine X5 (W7 rfl ?_ ?_))
 all_goals (try (conv => whnf))
 all_goals (try first|exact Ob.mk (u8_bnd _)|(refine Ob.mk ?_;first|exact True.intro|assumption|omega|(try simp only [ZA,ZB,ZC,ZD,ZE,ZF,ZG,ZH,ZI,ZJ,ZK,ZL,ZM,ZN,ZO,Int.toNat_natCast,UInt8.ofNat_toNat,cast_eq] at *;omega)))
 all_goals (try first|(show (_:Int) = _;omega)|(show tupSV _ = _;with_unfolding_all rfl)|((first|show (_:Nat) ≤ _|show (_:Nat) ≤ _ ∧ (_:Nat) ≤ _|show (_:Int) ≤ _ ∧ (_:Int) ≤ _ ∧ (_:Int) ≤ _ ∧ (_:Int) ≤ _);(simp <;> omega)))
 all_goals (first | exact ⟨h1, h2, h3⟩ | exact ⟨h2, h3⟩ | rfl | trace_state)
instance qpTo (t : List NodeD) (op : List Int) (nm : List UInt8) (md bk lx fm hd : Int) (fo sk : Bool) (ins : List UInt8) :
  FnM BB 26 [.loc 0 0, .str nm] [(0, .box [.own 1, .own 2, .nils, .int .i64 md, .int .i64 bk, .int .i64 lx, .int .i64 fm, .int .i64 hd, .bool fo, .bool sk, .str ins]), (1, .own nodeTy t), (2, .own intTy op)] (shortN t ∧ nm.length ≤ 100000 ∧ op.length ≤ 100000)
   (.tup []) [(0, .box [.own 1, .own 2, .nils, .int .i64 md, .int .i64 bk, .int .i64 lx, .int .i64 fm, .int .i64 hd, .bool fo, .bool sk, .str ins]), (1, .own nodeTy t), (2, .own intTy (op.take (cutR (fun x => !isE t x nm) op op.length)))] := by
 refine FnM.intro (N := 17) [0, 1] [(0, [0, 0, 0, 0, 1, 0, 0, 0, 1, 0, 3, 0, 0, 3])] 3 Tryz.call26 Tryz.func26 rfl rfl (by kernel_rfl) (fun hpre => ?_)
 obtain ⟨h1, h2, h3⟩ := hpre
 repeat' ((conv => whnf);first|(with_reducible first|rfl|exact absTF|exact absFT)|exact True.intro|intro _|refine And.intro ?_ ?_|refine Fin.mk ?_|refine W1 rfl ?_ ?_|refine W2 rfl ?_ ?_|refine W3 rfl ?_ ?_|refine W4 ?_ ?_|refine W5 rfl ?_ ?_|refine W6 ?_ ?_|refine AppN.mk ?_|refine X1 (W1 rfl ?_ ?_)|refine X1 (W2 rfl ?_ ?_)|refine X2 (W7 rfl ?_ ?_)|refine X3 (W7 rfl ?_ ?_)|refine X4 (W7 rfl ?_ ?_)|refine X5 (W7 rfl ?_ ?_))
 all_goals (try (conv => whnf))
 all_goals (try first|exact Ob.mk (u8_bnd _)|(refine Ob.mk ?_;first|exact True.intro|assumption|omega|(try simp only [ZA,ZB,ZC,ZD,ZE,ZF,ZG,ZH,ZI,ZJ,ZK,ZL,ZM,ZN,ZO,Int.toNat_natCast,UInt8.ofNat_toNat,cast_eq] at *;omega)))
 all_goals (try first|(show (_:Int) = _;omega)|(show tupSV _ = _;with_unfolding_all rfl)|((first|show (_:Nat) ≤ _|show (_:Nat) ≤ _ ∧ (_:Nat) ≤ _|show (_:Int) ≤ _ ∧ (_:Int) ≤ _ ∧ (_:Int) ≤ _ ∧ (_:Int) ≤ _);(simp <;> omega)))
 all_goals (first | exact ⟨h1, h2, h3⟩ | exact ⟨h2, h3⟩ | rfl | trace_state)
instance qrPop (t : List NodeD) (op : List Int) (nm : List UInt8) (md bk lx fm hd : Int) (fo sk : Bool) (ins : List UInt8) :
  FnM BB 23 [.loc 0 0, .str nm] [(0, .box [.own 1, .own 2, .nils, .int .i64 md, .int .i64 bk, .int .i64 lx, .int .i64 fm, .int .i64 hd, .bool fo, .bool sk, .str ins]), (1, .own nodeTy t), (2, .own intTy op)] (shortN t ∧ nm.length ≤ 100000 ∧ op.length ≤ 100000)
   (.tup []) [(0, .box [.own 1, .own 2, .nils, .int .i64 md, .int .i64 bk, .int .i64 lx, .int .i64 fm, .int .i64 hd, .bool fo, .bool sk, .str ins]), (1, .own nodeTy t), (2, .own intTy (op.take (popR (fun x => isE t x nm) op op.length)))] := by
 refine FnM.intro (N := 17) [0, 1] [(0, [0, 0, 0, 0, 1, 0, 0, 0, 1, 0, 3, 0, 0, 3])] 3 Tryz.call23 Tryz.func23 rfl rfl (by kernel_rfl) (fun hpre => ?_)
 obtain ⟨h1, h2, h3⟩ := hpre
 repeat' ((conv => whnf);first|(with_reducible first|rfl|exact absTF|exact absFT)|exact True.intro|intro _|refine And.intro ?_ ?_|refine Fin.mk ?_|refine W1 rfl ?_ ?_|refine W2 rfl ?_ ?_|refine W3 rfl ?_ ?_|refine W4 ?_ ?_|refine W5 rfl ?_ ?_|refine W6 ?_ ?_|refine AppN.mk ?_|refine X1 (W1 rfl ?_ ?_)|refine X1 (W2 rfl ?_ ?_)|refine X2 (W7 rfl ?_ ?_)|refine X3 (W7 rfl ?_ ?_)|refine X4 (W7 rfl ?_ ?_)|refine X5 (W7 rfl ?_ ?_))
 all_goals (try (conv => whnf))
 all_goals (try first|exact Ob.mk (u8_bnd _)|(refine Ob.mk ?_;first|exact True.intro|assumption|omega|(try simp only [ZA,ZB,ZC,ZD,ZE,ZF,ZG,ZH,ZI,ZJ,ZK,ZL,ZM,ZN,ZO,Int.toNat_natCast,UInt8.ofNat_toNat,cast_eq] at *;omega)))
 all_goals (try first|(show (_:Int) = _;omega)|(show tupSV _ = _;with_unfolding_all rfl)|((first|show (_:Nat) ≤ _|show (_:Nat) ≤ _ ∧ (_:Nat) ≤ _|show (_:Int) ≤ _ ∧ (_:Int) ≤ _ ∧ (_:Int) ≤ _ ∧ (_:Int) ≤ _);(simp <;> omega)))
 all_goals (first | exact ⟨h1, h2, h3⟩ | exact ⟨h2, h3⟩ | rfl | trace_state)
instance qrImplied (t : List NodeD) (op : List Int) (nm : List UInt8) (md bk lx fm hd : Int) (fo sk : Bool) (ins : List UInt8) :
  FnM BB 25 [.loc 0 0, .str nm] [(0, .box [.own 1, .own 2, .nils, .int .i64 md, .int .i64 bk, .int .i64 lx, .int .i64 fm, .int .i64 hd, .bool fo, .bool sk, .str ins]), (1, .own nodeTy t), (2, .own intTy op)] (shortN t ∧ nm.length ≤ 100000 ∧ op.length ≤ 100000)
   (.tup []) [(0, .box [.own 1, .own 2, .nils, .int .i64 md, .int .i64 bk, .int .i64 lx, .int .i64 fm, .int .i64 hd, .bool fo, .bool sk, .str ins]), (1, .own nodeTy t), (2, .own intTy (op.take (cutR (implN t nm) op op.length)))] := by
 refine FnM.intro (N := 17) [0, 1] [(0, [0, 0, 0, 0, 1, 0, 0, 0, 1, 0, 3, 0, 0, 3])] 3 Tryz.call25 Tryz.func25 rfl rfl (by kernel_rfl) (fun hpre => ?_)
 obtain ⟨h1, h2, h3⟩ := hpre
 repeat' ((conv => whnf);first|(with_reducible first|rfl|exact absTF|exact absFT)|exact True.intro|intro _|refine And.intro ?_ ?_|refine Fin.mk ?_|refine W1 rfl ?_ ?_|refine W2 rfl ?_ ?_|refine W3 rfl ?_ ?_|refine W4 ?_ ?_|refine W5 rfl ?_ ?_|refine W6 ?_ ?_|refine AppN.mk ?_|refine X1 (W1 rfl ?_ ?_)|refine X1 (W2 rfl ?_ ?_)|refine X2 (W7 rfl ?_ ?_)|refine X3 (W7 rfl ?_ ?_)|refine X4 (W7 rfl ?_ ?_)|refine X5 (W7 rfl ?_ ?_))
 all_goals (try (conv => whnf))
 all_goals (try first|exact Ob.mk (u8_bnd _)|(refine Ob.mk ?_;first|exact True.intro|assumption|omega|(try simp only [ZA,ZB,ZC,ZD,ZE,ZF,ZG,ZH,ZI,ZJ,ZK,ZL,ZM,ZN,ZO,Int.toNat_natCast,UInt8.ofNat_toNat,cast_eq] at *;omega)))
 all_goals (try first|(show (_:Int) = _;omega)|(show tupSV _ = _;with_unfolding_all rfl)|((first|show (_:Nat) ≤ _|show (_:Nat) ≤ _ ∧ (_:Nat) ≤ _|show (_:Int) ≤ _ ∧ (_:Int) ≤ _ ∧ (_:Int) ≤ _ ∧ (_:Int) ≤ _);(simp <;> omega)))
 all_goals (first | exact ⟨h1, h2, h3⟩ | exact ⟨h2, h3⟩ | rfl | trace_state)
instance qrTo (t : List NodeD) (op : List Int) (nm : List UInt8) (md bk lx fm hd : Int) (fo sk : Bool) (ins : List UInt8) :
  FnM BB 27 [.loc 0 0, .str nm] [(0, .box [.own 1, .own 2, .nils, .int .i64 md, .int .i64 bk, .int .i64 lx, .int .i64 fm, .int .i64 hd, .bool fo, .bool sk, .str ins]), (1, .own nodeTy t), (2, .own intTy op)] (shortN t ∧ nm.length ≤ 100000 ∧ op.length ≤ 100000)
   (.tup []) [(0, .box [.own 1, .own 2, .nils, .int .i64 md, .int .i64 bk, .int .i64 lx, .int .i64 fm, .int .i64 hd, .bool fo, .bool sk, .str ins]), (1, .own nodeTy t), (2, .own intTy (op.take (cutR (fun x => !isE t x nm) op op.length)))] := by
 refine FnM.intro (N := 17) [0, 1] [(0, [0, 0, 0, 0, 1, 0, 0, 0, 1, 0, 3, 0, 0, 3])] 3 Tryz.call27 Tryz.func27 rfl rfl (by kernel_rfl) (fun hpre => ?_)
 obtain ⟨h1, h2, h3⟩ := hpre
 repeat' ((conv => whnf);first|(with_reducible first|rfl|exact absTF|exact absFT)|exact True.intro|intro _|refine And.intro ?_ ?_|refine Fin.mk ?_|refine W1 rfl ?_ ?_|refine W2 rfl ?_ ?_|refine W3 rfl ?_ ?_|refine W4 ?_ ?_|refine W5 rfl ?_ ?_|refine W6 ?_ ?_|refine AppN.mk ?_|refine X1 (W1 rfl ?_ ?_)|refine X1 (W2 rfl ?_ ?_)|refine X2 (W7 rfl ?_ ?_)|refine X3 (W7 rfl ?_ ?_)|refine X4 (W7 rfl ?_ ?_)|refine X5 (W7 rfl ?_ ?_))
 all_goals (try (conv => whnf))
 all_goals (try first|exact Ob.mk (u8_bnd _)|(refine Ob.mk ?_;first|exact True.intro|assumption|omega|(try simp only [ZA,ZB,ZC,ZD,ZE,ZF,ZG,ZH,ZI,ZJ,ZK,ZL,ZM,ZN,ZO,Int.toNat_natCast,UInt8.ofNat_toNat,cast_eq] at *;omega)))
 all_goals (try first|(show (_:Int) = _;omega)|(show tupSV _ = _;with_unfolding_all rfl)|((first|show (_:Nat) ≤ _|show (_:Nat) ≤ _ ∧ (_:Nat) ≤ _|show (_:Int) ≤ _ ∧ (_:Int) ≤ _ ∧ (_:Int) ≤ _ ∧ (_:Int) ≤ _);(simp <;> omega)))
 all_goals (first | exact ⟨h1, h2, h3⟩ | exact ⟨h2, h3⟩ | rfl | trace_state)
end Go.Vc

namespace Go.Vc
open Go.Proofs
set_option maxRecDepth 10000
set_option maxHeartbeats 8000000
theorem newT_short : shortN newT := by
 intro i
 cases h : isT newT i with
 | false => rw [nodeE_out h]; decide
 | true =>
  rw [nodeE_in h]
  have h2 := isT_iff.1 h
  rw [newT_len] at h2
  obtain h3 | h3 : i = 0 ∨ i = 1 := by omega
  ·subst h3; decide
  ·subst h3; decide
theorem root_short : shortN [rootN] := by
 intro i
 cases h : isT [rootN] i with
 | false => rw [nodeE_out h]; decide
 | true =>
  rw [nodeE_in h]
  have h2 := isT_iff.1 h
  obtain h3 : i = 0 := by have : ([rootN] : List NodeD).length = 1 := rfl; omega
  subst h3; decide
def newTr (ins : List UInt8) : List NodeD := bif ins == [] then [rootN] else newT
def newOp (ins : List UInt8) : List Int := bif ins == [] then [] else [1]
def newMd (ins : List UInt8) : Int := bif ins == [] then 0 else modeL ins 0
def newLx (ins : List UInt8) : Int := bif ins == [] then 0 else W.kLexed ins
theorem new_ne {ins : List UInt8} (h : ins ≠ []) : newTr ins = newT ∧ newOp ins = [1] ∧ newMd ins = modeL ins 0 ∧ newLx ins = W.kLexed ins := by
 have e : (ins == []) = false := beq_eq_false_iff_ne.2 h
 unfold newTr newOp newMd newLx
 rw [e]; exact ⟨rfl, rfl, rfl, rfl⟩
theorem newTr_short (ins : List UInt8) : shortN (newTr ins) := by
 by_cases h : ins = []
 ·subst h; exact root_short
 ·rw [(new_ne h).1]; exact newT_short
theorem newTr_small (ins : List UInt8) : smallT (newTr ins) = true := by
 by_cases h : ins = []
 ·subst h; decide
 ·rw [(new_ne h).1]; decide
theorem newTr_len (ins : List UInt8) : (newTr ins).length ≤ 2 := by
 by_cases h : ins = []
 ·subst h; decide
 ·rw [(new_ne h).1]; decide
theorem newOp_len (ins : List UInt8) : (newOp ins).length ≤ 1 := by
 by_cases h : ins = []
 ·subst h; decide
 ·rw [(new_ne h).2.1]; decide
theorem qpNew0 : FnM BB 8 [.str []] [] True (.loc 0 0)
      [(0, .box [.own 1, .own 2, .nils, .int .i64 0, .int .i64 0, .int .i64 0, .int .i64 0, .int .i64 0, .bool false, .bool false, .str []]), (1, .own nodeTy [rootN]), (2, .own intTy [])] := by
  refine FnM.intro (N := 40) [0, 2, 3, 4, 10] [] 3 Tryz.call8 Tryz.func8 rfl rfl (by kernel_rfl) (fun hpre => ?_)
  repeat' ((conv => whnf);first|(with_reducible first|rfl|exact absTF|exact absFT)|exact True.intro|(intro hq;(try (exfalso;revert hq;decide +kernel)))|refine And.intro ?_ ?_|refine Fin.mk ?_|refine W1 rfl ?_ ?_|refine W2 rfl ?_ ?_|refine W3 rfl ?_ ?_|refine W4 ?_ ?_|refine W5 rfl ?_ ?_|refine W6 ?_ ?_|refine AppN.mk ?_|refine X1 (W1 rfl ?_ ?_)|refine X1 (W2 rfl ?_ ?_)|refine X2 (W7 rfl ?_ ?_)|refine X3 (W7 rfl ?_ ?_)|refine X4 (W7 rfl ?_ ?_)|refine X5 (W7 rfl ?_ ?_))
  all_goals (try (conv => whnf))
  all_goals (try first|exact Ob.mk (u8_bnd _)|(refine Ob.mk ?_;first|exact True.intro|assumption|omega|(try simp only [ZA,ZB,ZC,ZD,ZE,ZF,ZG,ZH,ZI,ZJ,ZK,ZL,ZM,ZN,ZO,Int.toNat_natCast,UInt8.ofNat_toNat,cast_eq] at *;omega)))
  all_goals (try first|(show (_:Int) = _;omega)|(show tupSV _ = _;with_unfolding_all rfl)|((first|show (_:Nat) ≤ _|show (_:Nat) ≤ _ ∧ (_:Nat) ≤ _|show (_:Int) ≤ _ ∧ (_:Int) ≤ _ ∧ (_:Int) ≤ _ ∧ (_:Int) ≤ _);(simp <;> omega)))
  all_goals (first | rfl | decide | trace_state)
theorem qrNew0 : FnM BB 9 [.str []] [] True (.loc 0 0)
      [(0, .box [.own 1, .own 2, .nils, .int .i64 0, .int .i64 0, .int .i64 0, .int .i64 0, .int .i64 0, .bool false, .bool false, .str []]), (1, .own nodeTy [rootN]), (2, .own intTy [])] := by
  refine FnM.intro (N := 34) [0, 2, 3, 4, 10] [] 3 Tryz.call9 Tryz.func9 rfl rfl (by kernel_rfl) (fun hpre => ?_)
  repeat' ((conv => whnf);first|(with_reducible first|rfl|exact absTF|exact absFT)|exact True.intro|(intro hq;(try (exfalso;revert hq;decide +kernel)))|refine And.intro ?_ ?_|refine Fin.mk ?_|refine W1 rfl ?_ ?_|refine W2 rfl ?_ ?_|refine W3 rfl ?_ ?_|refine W4 ?_ ?_|refine W5 rfl ?_ ?_|refine W6 ?_ ?_|refine AppN.mk ?_|refine X1 (W1 rfl ?_ ?_)|refine X1 (W2 rfl ?_ ?_)|refine X2 (W7 rfl ?_ ?_)|refine X3 (W7 rfl ?_ ?_)|refine X4 (W7 rfl ?_ ?_)|refine X5 (W7 rfl ?_ ?_))
  all_goals (try (conv => whnf))
  all_goals (try first|exact Ob.mk (u8_bnd _)|(refine Ob.mk ?_;first|exact True.intro|assumption|omega|(try simp only [ZA,ZB,ZC,ZD,ZE,ZF,ZG,ZH,ZI,ZJ,ZK,ZL,ZM,ZN,ZO,Int.toNat_natCast,UInt8.ofNat_toNat,cast_eq] at *;omega)))
  all_goals (try first|(show (_:Int) = _;omega)|(show tupSV _ = _;with_unfolding_all rfl)|((first|show (_:Nat) ≤ _|show (_:Nat) ≤ _ ∧ (_:Nat) ≤ _|show (_:Int) ≤ _ ∧ (_:Int) ≤ _ ∧ (_:Int) ≤ _ ∧ (_:Int) ≤ _);(simp <;> omega)))
  all_goals (first | rfl | decide | trace_state)
instance (priority := 2000) qpNew (ins : List UInt8) : FnM BB 8 [.str ins] [] (ins.length ≤ 60) (.loc 0 0)
      [(0, .box [.own 1, .own 2, .nils, .int .i64 (newMd ins), .int .i64 0, .int .i64 (newLx ins), .int .i64 0, .int .i64 0, .bool false, .bool false, .str ins]), (1, .own nodeTy (newTr ins)), (2, .own intTy (newOp ins))] :=
  ⟨Tryz.call8, fun h => by
    by_cases h0 : ins = []
    · subst h0; exact qpNew0.ok trivial
    · obtain ⟨e1, e2, e3, e4⟩ := new_ne h0
      rw [e1, e2, e3, e4]
      exact (u41 ins).ok ⟨h0, h⟩⟩
instance (priority := 2000) qrNew (ins : List UInt8) : FnM BB 9 [.str ins] [] (ins.length ≤ 60) (.loc 0 0)
      [(0, .box [.own 1, .own 2, .nils, .int .i64 (newMd ins), .int .i64 0, .int .i64 (newLx ins), .int .i64 0, .int .i64 0, .bool false, .bool false, .str ins]), (1, .own nodeTy (newTr ins)), (2, .own intTy (newOp ins))] :=
  ⟨Tryz.call9, fun h => by
    by_cases h0 : ins = []
    · subst h0; exact qrNew0.ok trivial
    · obtain ⟨e1, e2, e3, e4⟩ := new_ne h0
      rw [e1, e2, e3, e4]
      exact (rNew17 ins).ok ⟨h0, h⟩⟩
end Go.Vc

namespace Go.Vc
open Go.Proofs
set_option maxRecDepth 10000
set_option maxHeartbeats 8000000
instance qrIs (t : List NodeD) (op : List Int) (nm : List UInt8) (md bk lx fm hd : Int) (fo sk : Bool) (ins : List UInt8) : FnM BB 17 [.loc 0 0, .str nm] [(0, .box [.own 1, .own 2, .nils, .int .i64 md, .int .i64 bk, .int .i64 lx, .int .i64 fm, .int .i64 hd, .bool fo, .bool sk, .str ins]), (1, .own nodeTy t), (2, .own intTy op)] (shortN t ∧ nm.length ≤ 100000)
  (.bool (isE t (topS op) nm)) [(0, .box [.own 1, .own 2, .nils, .int .i64 md, .int .i64 bk, .int .i64 lx, .int .i64 fm, .int .i64 hd, .bool fo, .bool sk, .str ins]), (1, .own nodeTy t), (2, .own intTy op)] := by
 refine FnM.intro (N := 16) [0, 1, 4] [(1, [0, 0, 0, 1, 0, 0, 0, 1, 1, 0, 3, 3])] 3 Tryz.call17 Tryz.func17 rfl rfl (by kernel_rfl) (fun hpre => ?_)
 repeat' ((conv => whnf);first|(with_reducible first|rfl|exact absTF|exact absFT)|exact True.intro|intro _|refine And.intro ?_ ?_|refine Fin.mk ?_|refine W1 rfl ?_ ?_|refine W2 rfl ?_ ?_|refine W3 rfl ?_ ?_|refine W4 ?_ ?_|refine W5 rfl ?_ ?_|refine W6 ?_ ?_|refine AppN.mk ?_|refine X1 (W1 rfl ?_ ?_)|refine X1 (W2 rfl ?_ ?_)|refine X2 (W7 rfl ?_ ?_)|refine X3 (W7 rfl ?_ ?_)|refine X4 (W7 rfl ?_ ?_)|refine X5 (W7 rfl ?_ ?_))
 all_goals (try (conv => whnf))
 all_goals (try first|exact Ob.mk (u8_bnd _)|(refine Ob.mk ?_;first|exact True.intro|assumption|omega|(try simp only [ZA,ZB,ZC,ZD,ZE,ZF,ZG,ZH,ZI,ZJ,ZK,ZL,ZM,ZN,ZO,Int.toNat_natCast,UInt8.ofNat_toNat,cast_eq] at *;omega)))
 all_goals (try first|(show (_:Int) = _;omega)|(show tupSV _ = _;with_unfolding_all rfl)|((first|show (_:Nat) ≤ _|show (_:Nat) ≤ _ ∧ (_:Nat) ≤ _|show (_:Int) ≤ _ ∧ (_:Int) ≤ _ ∧ (_:Int) ≤ _ ∧ (_:Int) ≤ _);(simp <;> omega)))
 all_goals (first | exact hpre | exact hpre.2 | exact trivial | trace_state)
instance qpHas (t : List NodeD) (op : List Int) (nm : List UInt8) (md bk lx fm hd : Int) (fo sk : Bool) (ins : List UInt8) (sc : Int) : FnM BB 18 [.loc 0 0, .str nm, .int .i64 sc] [(0, .box [.own 1, .own 2, .nils, .int .i64 md, .int .i64 bk, .int .i64 lx, .int .i64 fm, .int .i64 hd, .bool fo, .bool sk, .str ins]), (1, .own nodeTy t), (2, .own intTy op)] (shortN t ∧ nm.length ≤ 100000)
  (.bool (hasS t op nm sc)) [(0, .box [.own 1, .own 2, .nils, .int .i64 md, .int .i64 bk, .int .i64 lx, .int .i64 fm, .int .i64 hd, .bool fo, .bool sk, .str ins]), (1, .own nodeTy t), (2, .own intTy op)] := by
 refine FnM.intro (N := 18) [0, 1, 2, 6] [(1, [0, 0, 0, 1, 0, 0, 0, 1, 0, 0, 3, 3])] 3 Tryz.call18 Tryz.func18 rfl rfl (by kernel_rfl) (fun hpre => ?_)
 repeat' ((conv => whnf);first|(with_reducible first|rfl|exact absTF|exact absFT)|exact True.intro|intro _|refine And.intro ?_ ?_|refine Fin.mk ?_|refine W1 rfl ?_ ?_|refine W2 rfl ?_ ?_|refine W3 rfl ?_ ?_|refine W4 ?_ ?_|refine W5 rfl ?_ ?_|refine W6 ?_ ?_|refine AppN.mk ?_|refine X1 (W1 rfl ?_ ?_)|refine X1 (W2 rfl ?_ ?_)|refine X2 (W7 rfl ?_ ?_)|refine X3 (W7 rfl ?_ ?_)|refine X4 (W7 rfl ?_ ?_)|refine X5 (W7 rfl ?_ ?_))
 all_goals (try (conv => whnf))
 all_goals (try first|exact Ob.mk (u8_bnd _)|(refine Ob.mk ?_;first|exact True.intro|assumption|omega|(try simp only [ZA,ZB,ZC,ZD,ZE,ZF,ZG,ZH,ZI,ZJ,ZK,ZL,ZM,ZN,ZO,Int.toNat_natCast,UInt8.ofNat_toNat,cast_eq] at *;omega)))
 all_goals (try first|(show (_:Int) = _;omega)|(show tupSV _ = _;with_unfolding_all rfl)|((first|show (_:Nat) ≤ _|show (_:Nat) ≤ _ ∧ (_:Nat) ≤ _|show (_:Int) ≤ _ ∧ (_:Int) ≤ _ ∧ (_:Int) ≤ _ ∧ (_:Int) ≤ _);(simp <;> omega)))
 all_goals (first | exact hpre | exact hpre.2 | exact trivial | trace_state)
instance qpPara (t : List NodeD) (op : List Int) (md bk lx fm hd : Int) (fo sk : Bool) (ins : List UInt8) : FnM BB 28 [.loc 0 0] [(0, .box [.own 1, .own 2, .nils, .int .i64 md, .int .i64 bk, .int .i64 lx, .int .i64 fm, .int .i64 hd, .bool fo, .bool sk, .str ins]), (1, .own nodeTy t), (2, .own intTy op)] (shortN t ∧ op.length ≤ 100000)
  (.tup []) [(0, .box [.own 1, .own 2, .nils, .int .i64 md, .int .i64 bk, .int .i64 lx, .int .i64 fm, .int .i64 hd, .bool fo, .bool sk, .str ins]), (1, .own nodeTy t), (2, .own intTy ((op.take (cutR (implN t [112]) op op.length)).take (popR (fun x => isE t x [112]) (op.take (cutR (implN t [112]) op op.length)) (op.take (cutR (implN t [112]) op op.length)).length)))] := by
 refine FnM.intro (N := 6) [0] [] 3 Tryz.call28 Tryz.func28 rfl rfl (by kernel_rfl) (fun hpre => ?_)
 repeat' ((conv => whnf);first|(with_reducible first|rfl|exact absTF|exact absFT)|exact True.intro|intro _|refine And.intro ?_ ?_|refine Fin.mk ?_|refine W1 rfl ?_ ?_|refine W2 rfl ?_ ?_|refine W3 rfl ?_ ?_|refine W4 ?_ ?_|refine W5 rfl ?_ ?_|refine W6 ?_ ?_|refine AppN.mk ?_|refine X1 (W1 rfl ?_ ?_)|refine X1 (W2 rfl ?_ ?_)|refine X2 (W7 rfl ?_ ?_)|refine X3 (W7 rfl ?_ ?_)|refine X4 (W7 rfl ?_ ?_)|refine X5 (W7 rfl ?_ ?_))
 all_goals (try (conv => whnf))
 all_goals (try first|exact Ob.mk (u8_bnd _)|(refine Ob.mk ?_;first|exact True.intro|assumption|omega|(try simp only [ZA,ZB,ZC,ZD,ZE,ZF,ZG,ZH,ZI,ZJ,ZK,ZL,ZM,ZN,ZO,Int.toNat_natCast,UInt8.ofNat_toNat,cast_eq] at *;omega)))
 all_goals (try first|(show (_:Int) = _;omega)|(show tupSV _ = _;with_unfolding_all rfl)|((first|show (_:Nat) ≤ _|show (_:Nat) ≤ _ ∧ (_:Nat) ≤ _|show (_:Int) ≤ _ ∧ (_:Int) ≤ _ ∧ (_:Int) ≤ _ ∧ (_:Int) ≤ _);(simp <;> omega)))
 all_goals (first | exact ⟨hpre.1, by decide, hpre.2⟩ | exact ⟨hpre.1, by decide, by rw [List.length_take]; have := hpre.2; omega⟩ | trace_state)
theorem qpAdj0 (md bk lx fm hd : Int) (fo sk : Bool) : FnM BB 20 [.loc 0 0] [(0, .box [.own 1, .own 2, .nils, .int .i64 md, .int .i64 bk, .int .i64 lx, .int .i64 fm, .int .i64 hd, .bool fo, .bool sk, .str []]), (1, .own nodeTy [rootN]), (2, .own intTy [])] True
  (.agg [.int .i64 1, .int .i64 0, .str [], .nils, .str [], .int .i64 0, .nils]) [(0, .box [.own 1, .own 2, .nils, .int .i64 md, .int .i64 bk, .int .i64 lx, .int .i64 fm, .int .i64 hd, .bool fo, .bool sk, .str []]), (1, .own nodeTy [rootN]), (2, .own intTy [])] := by
 refine FnM.intro (N := 40) [0, 2, 3, 9, 28] [] 3 Tryz.call20 Tryz.func20 rfl rfl (by kernel_rfl) (fun hpre => ?_)
 repeat' ((conv => whnf);first|(with_reducible first|rfl|exact absTF|exact absFT)|exact True.intro|(intro hq;(try (exfalso;revert hq;decide +kernel)))|refine And.intro ?_ ?_|refine Fin.mk ?_|refine W1 rfl ?_ ?_|refine W2 rfl ?_ ?_|refine W3 rfl ?_ ?_|refine W4 ?_ ?_|refine W5 rfl ?_ ?_|refine W6 ?_ ?_|refine AppN.mk ?_|refine X1 (W1 rfl ?_ ?_)|refine X1 (W2 rfl ?_ ?_)|refine X2 (W7 rfl ?_ ?_)|refine X3 (W7 rfl ?_ ?_)|refine X4 (W7 rfl ?_ ?_)|refine X5 (W7 rfl ?_ ?_))
 all_goals (try (conv => whnf))
 all_goals (try first|exact Ob.mk (u8_bnd _)|(refine Ob.mk ?_;first|exact True.intro|assumption|omega|(try simp only [ZA,ZB,ZC,ZD,ZE,ZF,ZG,ZH,ZI,ZJ,ZK,ZL,ZM,ZN,ZO,Int.toNat_natCast,UInt8.ofNat_toNat,cast_eq] at *;omega)))
 all_goals (try first|(show (_:Int) = _;omega)|(show tupSV _ = _;with_unfolding_all rfl)|((first|show (_:Nat) ≤ _|show (_:Nat) ≤ _ ∧ (_:Nat) ≤ _|show (_:Int) ≤ _ ∧ (_:Int) ≤ _ ∧ (_:Int) ≤ _ ∧ (_:Int) ≤ _);(simp <;> omega)))
 all_goals (first | rfl | decide | trace_state)
theorem qpAdj1 (md bk lx fm hd : Int) (fo sk : Bool) (ins : List UInt8) : FnM BB 20 [.loc 0 0] [(0, .box [.own 1, .own 2, .nils, .int .i64 md, .int .i64 bk, .int .i64 lx, .int .i64 fm, .int .i64 hd, .bool fo, .bool sk, .str ins]), (1, .own nodeTy newT), (2, .own intTy [1])] (ins ≠ [])
  (.agg [.int .i64 1, .int .i64 0, .str ins, .nils, .str [], .int .i64 0, .nils]) [(0, .box [.own 1, .own 2, .nils, .int .i64 md, .int .i64 bk, .int .i64 lx, .int .i64 fm, .int .i64 hd, .bool fo, .bool sk, .str ins]), (1, .own nodeTy newT), (2, .own intTy [1])] := by
 refine FnM.intro (N := 40) [0, 2, 3, 9, 28] [] 3 Tryz.call20 Tryz.func20 rfl rfl (by kernel_rfl) (fun hpre => ?_)
 have e1 : (((([1] : List Int).length : Nat) : Int) == 1 && !ins == []) = true := by rw [beq_eq_false_iff_ne.2 hpre]; rfl
 have e2 : (!ins == [] && ((([1] : List Int).length : Nat) : Int) == 1) = true := by rw [beq_eq_false_iff_ne.2 hpre]; rfl
 repeat' ((conv => whnf);first|(with_reducible first|rfl|exact absTF|exact absFT)|exact True.intro|intro _|refine And.intro ?_ ?_|refine Fin.mk ?_|refine W1 rfl ?_ ?_|refine W2 rfl ?_ ?_|refine W3 rfl ?_ ?_|refine W4 ?_ ?_|refine W5 rfl ?_ ?_|refine W6 ?_ ?_|refine AppN.mk ?_|refine X1 (W1 rfl ?_ ?_)|refine X1 (W2 rfl ?_ ?_)|refine X2 (W7 rfl ?_ ?_)|refine X3 (W7 rfl ?_ ?_)|refine X4 (W7 rfl ?_ ?_)|refine X5 (W7 rfl ?_ ?_))
 all_goals (try (conv => whnf))
 all_goals (try first|exact Ob.mk (u8_bnd _)|(refine Ob.mk ?_;first|exact True.intro|assumption|omega|(try simp only [ZA,ZB,ZC,ZD,ZE,ZF,ZG,ZH,ZI,ZJ,ZK,ZL,ZM,ZN,ZO,Int.toNat_natCast,UInt8.ofNat_toNat,cast_eq] at *;omega)))
 all_goals (try first|(show (_:Int) = _;omega)|(show tupSV _ = _;with_unfolding_all rfl)|((first|show (_:Nat) ≤ _|show (_:Nat) ≤ _ ∧ (_:Nat) ≤ _|show (_:Int) ≤ _ ∧ (_:Int) ≤ _ ∧ (_:Int) ≤ _ ∧ (_:Int) ≤ _);(simp <;> omega)))
 all_goals (try (exfalso; have h : (((([1] : List Int).length : Nat) : Int) == 1 && !ins == []) = false := ‹_›; rw [e1] at h; cases h))
 all_goals (try (exfalso; have h : (!ins == [] && ((([1] : List Int).length : Nat) : Int) == 1) = false := ‹_›; rw [e2] at h; cases h))
 all_goals (first | rfl | trace_state)
instance (priority := 2000) qpAdj (md bk lx fm hd : Int) (fo sk : Bool) (ins : List UInt8) : FnM BB 20 [.loc 0 0] [(0, .box [.own 1, .own 2, .nils, .int .i64 md, .int .i64 bk, .int .i64 lx, .int .i64 fm, .int .i64 hd, .bool fo, .bool sk, .str ins]), (1, .own nodeTy (newTr ins)), (2, .own intTy (newOp ins))] True
  (.agg [.int .i64 1, .int .i64 0, .str ins, .nils, .str [], .int .i64 0, .nils]) [(0, .box [.own 1, .own 2, .nils, .int .i64 md, .int .i64 bk, .int .i64 lx, .int .i64 fm, .int .i64 hd, .bool fo, .bool sk, .str ins]), (1, .own nodeTy (newTr ins)), (2, .own intTy (newOp ins))] :=
 ⟨Tryz.call20, fun _ => by
  by_cases h0 : ins = []
  ·subst h0; exact (qpAdj0 md bk lx fm hd fo sk).ok trivial
  ·obtain ⟨e1, e2, _, _⟩ := new_ne h0
   rw [e1, e2]
   exact (qpAdj1 md bk lx fm hd fo sk ins).ok h0⟩
instance qrHas (t : List NodeD) (op : List Int) (nm : List UInt8) (md bk lx fm hd : Int) (fo sk : Bool) (ins : List UInt8) (sc : Int) : FnM BB 19 [.loc 0 0, .str nm, .int .i64 sc] [(0, .box [.own 1, .own 2, .nils, .int .i64 md, .int .i64 bk, .int .i64 lx, .int .i64 fm, .int .i64 hd, .bool fo, .bool sk, .str ins]), (1, .own nodeTy t), (2, .own intTy op)] (shortN t ∧ nm.length ≤ 100000)
  (.bool (hasS t op nm sc)) [(0, .box [.own 1, .own 2, .nils, .int .i64 md, .int .i64 bk, .int .i64 lx, .int .i64 fm, .int .i64 hd, .bool fo, .bool sk, .str ins]), (1, .own nodeTy t), (2, .own intTy op)] := by
 refine FnM.intro (N := 18) [0, 1, 2, 6] [(1, [0, 0, 0, 1, 0, 0, 0, 1, 0, 0, 3, 3])] 3 Tryz.call19 Tryz.func19 rfl rfl (by kernel_rfl) (fun hpre => ?_)
 repeat' ((conv => whnf);first|(with_reducible first|rfl|exact absTF|exact absFT)|exact True.intro|intro _|refine And.intro ?_ ?_|refine Fin.mk ?_|refine W1 rfl ?_ ?_|refine W2 rfl ?_ ?_|refine W3 rfl ?_ ?_|refine W4 ?_ ?_|refine W5 rfl ?_ ?_|refine W6 ?_ ?_|refine AppN.mk ?_|refine X1 (W1 rfl ?_ ?_)|refine X1 (W2 rfl ?_ ?_)|refine X2 (W7 rfl ?_ ?_)|refine X3 (W7 rfl ?_ ?_)|refine X4 (W7 rfl ?_ ?_)|refine X5 (W7 rfl ?_ ?_))
 all_goals (try (conv => whnf))
 all_goals (try first|exact Ob.mk (u8_bnd _)|(refine Ob.mk ?_;first|exact True.intro|assumption|omega|(try simp only [ZA,ZB,ZC,ZD,ZE,ZF,ZG,ZH,ZI,ZJ,ZK,ZL,ZM,ZN,ZO,Int.toNat_natCast,UInt8.ofNat_toNat,cast_eq] at *;omega)))
 all_goals (try first|(show (_:Int) = _;omega)|(show tupSV _ = _;with_unfolding_all rfl)|((first|show (_:Nat) ≤ _|show (_:Nat) ≤ _ ∧ (_:Nat) ≤ _|show (_:Int) ≤ _ ∧ (_:Int) ≤ _ ∧ (_:Int) ≤ _ ∧ (_:Int) ≤ _);(simp <;> omega)))
 all_goals (first | exact hpre | exact hpre.2 | exact trivial | trace_state)
instance qrPara (t : List NodeD) (op : List Int) (md bk lx fm hd : Int) (fo sk : Bool) (ins : List UInt8) : FnM BB 29 [.loc 0 0] [(0, .box [.own 1, .own 2, .nils, .int .i64 md, .int .i64 bk, .int .i64 lx, .int .i64 fm, .int .i64 hd, .bool fo, .bool sk, .str ins]), (1, .own nodeTy t), (2, .own intTy op)] (shortN t ∧ op.length ≤ 100000)
  (.tup []) [(0, .box [.own 1, .own 2, .nils, .int .i64 md, .int .i64 bk, .int .i64 lx, .int .i64 fm, .int .i64 hd, .bool fo, .bool sk, .str ins]), (1, .own nodeTy t), (2, .own intTy ((op.take (cutR (implN t [112]) op op.length)).take (popR (fun x => isE t x [112]) (op.take (cutR (implN t [112]) op op.length)) (op.take (cutR (implN t [112]) op op.length)).length)))] := by
 refine FnM.intro (N := 6) [0] [] 3 Tryz.call29 Tryz.func29 rfl rfl (by kernel_rfl) (fun hpre => ?_)
 repeat' ((conv => whnf);first|(with_reducible first|rfl|exact absTF|exact absFT)|exact True.intro|intro _|refine And.intro ?_ ?_|refine Fin.mk ?_|refine W1 rfl ?_ ?_|refine W2 rfl ?_ ?_|refine W3 rfl ?_ ?_|refine W4 ?_ ?_|refine W5 rfl ?_ ?_|refine W6 ?_ ?_|refine AppN.mk ?_|refine X1 (W1 rfl ?_ ?_)|refine X1 (W2 rfl ?_ ?_)|refine X2 (W7 rfl ?_ ?_)|refine X3 (W7 rfl ?_ ?_)|refine X4 (W7 rfl ?_ ?_)|refine X5 (W7 rfl ?_ ?_))
 all_goals (try (conv => whnf))
 all_goals (try first|exact Ob.mk (u8_bnd _)|(refine Ob.mk ?_;first|exact True.intro|assumption|omega|(try simp only [ZA,ZB,ZC,ZD,ZE,ZF,ZG,ZH,ZI,ZJ,ZK,ZL,ZM,ZN,ZO,Int.toNat_natCast,UInt8.ofNat_toNat,cast_eq] at *;omega)))
 all_goals (try first|(show (_:Int) = _;omega)|(show tupSV _ = _;with_unfolding_all rfl)|((first|show (_:Nat) ≤ _|show (_:Nat) ≤ _ ∧ (_:Nat) ≤ _|show (_:Int) ≤ _ ∧ (_:Int) ≤ _ ∧ (_:Int) ≤ _ ∧ (_:Int) ≤ _);(simp <;> omega)))
 all_goals (first | exact ⟨hpre.1, by decide, hpre.2⟩ | exact ⟨hpre.1, by decide, by rw [List.length_take]; have := hpre.2; omega⟩ | trace_state)
theorem qrAdj0 (md bk lx fm hd : Int) (fo sk : Bool) : FnM BB 21 [.loc 0 0] [(0, .box [.own 1, .own 2, .nils, .int .i64 md, .int .i64 bk, .int .i64 lx, .int .i64 fm, .int .i64 hd, .bool fo, .bool sk, .str []]), (1, .own nodeTy [rootN]), (2, .own intTy [])] True
  (.agg [.int .i64 1, .int .i64 0, .str [], .nils, .str [], .int .i64 0, .nils]) [(0, .box [.own 1, .own 2, .nils, .int .i64 md, .int .i64 bk, .int .i64 lx, .int .i64 fm, .int .i64 hd, .bool fo, .bool sk, .str []]), (1, .own nodeTy [rootN]), (2, .own intTy [])] := by
 refine FnM.intro (N := 38) [0, 2, 3, 16, 28] [] 3 Tryz.call21 Tryz.func21 rfl rfl (by kernel_rfl) (fun hpre => ?_)
 repeat' ((conv => whnf);first|(with_reducible first|rfl|exact absTF|exact absFT)|exact True.intro|(intro hq;(try (exfalso;revert hq;decide +kernel)))|refine And.intro ?_ ?_|refine Fin.mk ?_|refine W1 rfl ?_ ?_|refine W2 rfl ?_ ?_|refine W3 rfl ?_ ?_|refine W4 ?_ ?_|refine W5 rfl ?_ ?_|refine W6 ?_ ?_|refine AppN.mk ?_|refine X1 (W1 rfl ?_ ?_)|refine X1 (W2 rfl ?_ ?_)|refine X2 (W7 rfl ?_ ?_)|refine X3 (W7 rfl ?_ ?_)|refine X4 (W7 rfl ?_ ?_)|refine X5 (W7 rfl ?_ ?_))
 all_goals (try (conv => whnf))
 all_goals (try first|exact Ob.mk (u8_bnd _)|(refine Ob.mk ?_;first|exact True.intro|assumption|omega|(try simp only [ZA,ZB,ZC,ZD,ZE,ZF,ZG,ZH,ZI,ZJ,ZK,ZL,ZM,ZN,ZO,Int.toNat_natCast,UInt8.ofNat_toNat,cast_eq] at *;omega)))
 all_goals (try first|(show (_:Int) = _;omega)|(show tupSV _ = _;with_unfolding_all rfl)|((first|show (_:Nat) ≤ _|show (_:Nat) ≤ _ ∧ (_:Nat) ≤ _|show (_:Int) ≤ _ ∧ (_:Int) ≤ _ ∧ (_:Int) ≤ _ ∧ (_:Int) ≤ _);(simp <;> omega)))
 all_goals (first | rfl | decide | trace_state)
theorem qrAdj1 (md bk lx fm hd : Int) (fo sk : Bool) (ins : List UInt8) : FnM BB 21 [.loc 0 0] [(0, .box [.own 1, .own 2, .nils, .int .i64 md, .int .i64 bk, .int .i64 lx, .int .i64 fm, .int .i64 hd, .bool fo, .bool sk, .str ins]), (1, .own nodeTy newT), (2, .own intTy [1])] (ins ≠ [])
  (.agg [.int .i64 1, .int .i64 0, .str ins, .nils, .str [], .int .i64 0, .nils]) [(0, .box [.own 1, .own 2, .nils, .int .i64 md, .int .i64 bk, .int .i64 lx, .int .i64 fm, .int .i64 hd, .bool fo, .bool sk, .str ins]), (1, .own nodeTy newT), (2, .own intTy [1])] := by
 refine FnM.intro (N := 38) [0, 2, 3, 16, 28] [] 3 Tryz.call21 Tryz.func21 rfl rfl (by kernel_rfl) (fun hpre => ?_)
 have e1 : (((([1] : List Int).length : Nat) : Int) == 1 && !ins == []) = true := by rw [beq_eq_false_iff_ne.2 hpre]; rfl
 have e2 : (!ins == [] && ((([1] : List Int).length : Nat) : Int) == 1) = true := by rw [beq_eq_false_iff_ne.2 hpre]; rfl
 repeat' ((conv => whnf);first|(with_reducible first|rfl|exact absTF|exact absFT)|exact True.intro|intro _|refine And.intro ?_ ?_|refine Fin.mk ?_|refine W1 rfl ?_ ?_|refine W2 rfl ?_ ?_|refine W3 rfl ?_ ?_|refine W4 ?_ ?_|refine W5 rfl ?_ ?_|refine W6 ?_ ?_|refine AppN.mk ?_|refine X1 (W1 rfl ?_ ?_)|refine X1 (W2 rfl ?_ ?_)|refine X2 (W7 rfl ?_ ?_)|refine X3 (W7 rfl ?_ ?_)|refine X4 (W7 rfl ?_ ?_)|refine X5 (W7 rfl ?_ ?_))
 all_goals (try (conv => whnf))
 all_goals (try first|exact Ob.mk (u8_bnd _)|(refine Ob.mk ?_;first|exact True.intro|assumption|omega|(try simp only [ZA,ZB,ZC,ZD,ZE,ZF,ZG,ZH,ZI,ZJ,ZK,ZL,ZM,ZN,ZO,Int.toNat_natCast,UInt8.ofNat_toNat,cast_eq] at *;omega)))
 all_goals (try first|(show (_:Int) = _;omega)|(show tupSV _ = _;with_unfolding_all rfl)|((first|show (_:Nat) ≤ _|show (_:Nat) ≤ _ ∧ (_:Nat) ≤ _|show (_:Int) ≤ _ ∧ (_:Int) ≤ _ ∧ (_:Int) ≤ _ ∧ (_:Int) ≤ _);(simp <;> omega)))
 all_goals (try (exfalso; have h : (((([1] : List Int).length : Nat) : Int) == 1 && !ins == []) = false := ‹_›; rw [e1] at h; cases h))
 all_goals (try (exfalso; have h : (!ins == [] && ((([1] : List Int).length : Nat) : Int) == 1) = false := ‹_›; rw [e2] at h; cases h))
 all_goals (first | rfl | trace_state)
instance (priority := 2000) qrAdj (md bk lx fm hd : Int) (fo sk : Bool) (ins : List UInt8) : FnM BB 21 [.loc 0 0] [(0, .box [.own 1, .own 2, .nils, .int .i64 md, .int .i64 bk, .int .i64 lx, .int .i64 fm, .int .i64 hd, .bool fo, .bool sk, .str ins]), (1, .own nodeTy (newTr ins)), (2, .own intTy (newOp ins))] True
  (.agg [.int .i64 1, .int .i64 0, .str ins, .nils, .str [], .int .i64 0, .nils]) [(0, .box [.own 1, .own 2, .nils, .int .i64 md, .int .i64 bk, .int .i64 lx, .int .i64 fm, .int .i64 hd, .bool fo, .bool sk, .str ins]), (1, .own nodeTy (newTr ins)), (2, .own intTy (newOp ins))] :=
 ⟨Tryz.call21, fun _ => by
  by_cases h0 : ins = []
  ·subst h0; exact (qrAdj0 md bk lx fm hd fo sk).ok trivial
  ·obtain ⟨e1, e2, _, _⟩ := new_ne h0
   rw [e1, e2]
   exact (qrAdj1 md bk lx fm hd fo sk ins).ok h0⟩
instance qAwake : Fn BB 15 [] True (.bool true) := by
 refine Fn.intro (N := 65) [0, 1, 2, 3, 4, 7, 20] [] Tryz.call15 Tryz.func15 rfl rfl (by kernel_rfl) (fun hpre => ?_)
 repeat' ((conv => whnf);first|(with_reducible first|rfl|exact absTF|exact absFT)|exact True.intro|(intro hq;(try (exfalso;revert hq;decide +kernel)))|refine And.intro ?_ ?_|refine Fin.mk ?_|refine W1 rfl ?_ ?_|refine W2 rfl ?_ ?_|refine W3 rfl ?_ ?_|refine W4 ?_ ?_|refine W5 rfl ?_ ?_|refine W6 ?_ ?_|refine AppN.mk ?_|refine X1 (W1 rfl ?_ ?_)|refine X1 (W2 rfl ?_ ?_)|refine X2 (W7 rfl ?_ ?_)|refine X3 (W7 rfl ?_ ?_)|refine X4 (W7 rfl ?_ ?_)|refine X5 (W7 rfl ?_ ?_))
 all_goals (try (conv => whnf))
 all_goals (try first|exact Ob.mk (u8_bnd _)|(refine Ob.mk ?_;first|exact True.intro|assumption|omega|(try simp only [ZA,ZB,ZC,ZD,ZE,ZF,ZG,ZH,ZI,ZJ,ZK,ZL,ZM,ZN,ZO,Int.toNat_natCast,UInt8.ofNat_toNat,cast_eq] at *;omega)))
 all_goals (try first|(show (_:Int) = _;omega)|(show tupSV _ = _;with_unfolding_all rfl)|((first|show (_:Nat) ≤ _|show (_:Nat) ≤ _ ∧ (_:Nat) ≤ _|show (_:Int) ≤ _ ∧ (_:Int) ≤ _ ∧ (_:Int) ≤ _ ∧ (_:Int) ≤ _);(simp <;> omega)))
 all_goals (first | decide +kernel | exact ⟨newTr_short _, by decide⟩ | exact ⟨newT_short, by decide⟩ | trace_state)
end Go.Vc

namespace Go.Vc
open Go.Proofs
set_option maxRecDepth 10000
set_option maxHeartbeats 8000000
instance qBegins (ins nm : List UInt8) (sc : Int) : Fn BB 6 [.str ins, .str nm, .int .i64 sc] True (.bool true) := by
 refine Fn.intro (N := 112) [0, 1, 2, 6, 7, 8, 9, 10, 18, 25, 49] [] Tryz.call6 Tryz.func6 rfl rfl (by kernel_rfl) (fun hpre => ?_)
 have hs := newTr_short ins
 have hsm := newTr_small ins
 have hl := newTr_len ins
 have hol := newOp_len ins
 have hi : (decide ((ins.length : Int) > 40) || decide ((nm.length : Int) > 60)) = false → ins.length ≤ 60 ∧ nm.length ≤ 100000 := fun h => by
  rw [Bool.or_eq_false_iff] at h
  have h1 := of_decide_eq_false h.1
  have h2 := of_decide_eq_false h.2
  omega
 repeat' ((conv => whnf);first|(with_reducible first|rfl|exact absTF|exact absFT)|exact True.intro|intro _|refine And.intro ?_ ?_|refine Fin.mk ?_|refine W1 rfl ?_ ?_|refine W2 rfl ?_ ?_|refine W3 rfl ?_ ?_|refine W4 ?_ ?_|refine W5 rfl ?_ ?_|refine W6 ?_ ?_|refine AppN.mk ?_|refine X1 (W1 rfl ?_ ?_)|refine X1 (W2 rfl ?_ ?_)|refine X2 (W7 rfl ?_ ?_)|refine X3 (W7 rfl ?_ ?_)|refine X4 (W7 rfl ?_ ?_)|refine X5 (W7 rfl ?_ ?_))
 all_goals (try (conv => whnf))
 all_goals (try first|exact Ob.mk (u8_bnd _)|(refine Ob.mk ?_;first|exact True.intro|assumption|omega|(try simp only [ZA,ZB,ZC,ZD,ZE,ZF,ZG,ZH,ZI,ZJ,ZK,ZL,ZM,ZN,ZO,Int.toNat_natCast,UInt8.ofNat_toNat,cast_eq] at *;omega)))
 all_goals (try first|(show (_:Int) = _;omega)|(show tupSV _ = _;with_unfolding_all rfl)|((first|show (_:Nat) ≤ _|show (_:Nat) ≤ _ ∧ (_:Nat) ≤ _|show (_:Int) ≤ _ ∧ (_:Int) ≤ _ ∧ (_:Int) ≤ _ ∧ (_:Int) ≤ _);(simp <;> omega)))
 all_goals (try (obtain ⟨hi1, hi2⟩ := hi (by assumption)))
 all_goals (try exact hi1)
 all_goals (try exact ⟨hs, hi2⟩)
 all_goals (try exact ⟨by omega, hsm, by omega⟩)
 all_goals (try exact ⟨hs, hi2, by omega⟩)
 all_goals (try exact ⟨hs, hi2, by simp only [List.length_take]; omega⟩)
 all_goals (try exact ⟨hs, by simp only [List.length_take]; omega⟩)
 all_goals (try exact ⟨by omega, hsm, by simp only [List.length_take]; omega⟩)
 all_goals (try (exfalso; have h := ‹(false || !hasS (newTr ins) (newOp ins) nm sc == hasS (newTr ins) (newOp ins) nm sc) = true›; simp at h))
 all_goals (try (exfalso; have h := ‹(false || !isE (newTr ins) (topS (newOp ins)) nm == isE (newTr ins) (topS (newOp ins)) nm) = true›; simp at h))
 all_goals (try (exfalso; exact absurd ‹(!true) = true› (by decide)))
 all_goals (try rfl)
 all_goals (exfalso; have h := ‹(((1 : Int) == 1) && ((0 : Int) == 0) && ins == ins && ((0 : Int) == 0)) = !true›; simp at h)
end Go.Vc

namespace Go.Vc
open Go.Proofs
set_option maxRecDepth 100000
theorem base_ok (W : World) (hsh : W.ShapedOpen Tryz.prog) : BB.G fun b => W.heap[b]? := by
 obtain ⟨m, hm⟩ := Go.Proofs.cell_of_shapedOpen_int (g := 0) (zero := #[.int .i64 0]) (t := 3) hsh (of_decide_eq_true (by kernel_rfl)) (by kernel_rfl) rfl (by kernel_rfl) (by kernel_rfl) Tryz.underlying3
 have hm' : W.cell? ⟨0, 0, none⟩ = some (.int .i64 m) := hm
 unfold World.cell? at hm'
 show ∃ c T fr m, W.heap[0]? = some (.cells c T fr) ∧ c[0]? = some (.int .i64 m)
 cases h : W.heap[0]? with
 | none => simp [h] at hm'
 | some o =>
  cases o with
  | cells c T fr => exact ⟨c, T, fr, m, rfl, by simpa [h] using hm'⟩
  | _ => simp [h] at hm'
end Go.Vc
