/- A part of the proof: lemmas and walks that the last text of the claim joins; no condition. -/
import Derived.Test.YtgihgphehpjjfaaStateModesTH
import Derived.Test.YtgihgphehpjjfaaStateModesTF
import Derived.Shelf.Vars
import Derived.Test.YtgihgphehpjjfaaRows
set_option linter.unusedVariables false
set_option linter.unusedSimpArgs false
set_option maxHeartbeats 8000000
namespace Go.Vc
open Go.Proofs
set_option maxRecDepth 10000
set_option maxHeartbeats 4000000
instance hPut0 (t : List NodeD) (s : List Bool) (k up : Int) :
    FnM BN 63 [.agg [.rd nodeTy t], .int .i64 k, .int .i64 up, .agg [.nils], .own 0] [(0, .own .bool s)] (pPre t [] s k)
      (.agg [.own 1]) [(1, .nst nodeTy 6 (putO t (kidsOf t) [] s k.toNat up) none)] := by
    refine FnM.intro (N := 99) [0, 1, 2, 3, 4, 5, 8, 10, 11, 12, 13, 14, 48, 75] [(12, [0, 7, 0, 0, 7, 0, 4, 4, 4, 0, 7, 4, 4, 4, 4, 4, 4]), (3000012, [454,519,779,840,844,909,974,1039]), (2000000, [0])] 1 Try.call63 Try.func63 rfl rfl (by kernel_rfl) (fun hpre => ?_)
    obtain ⟨hsm, hsl, hk, hlen⟩ := hpre
    simp only [List.length_nil, Nat.zero_add] at hlen
    repeat' ((conv => whnf);first|(with_reducible first|rfl|exact absTF|exact absFT)|exact True.intro|intro _|refine And.intro ?_ ?_|refine Fin.mk ?_|refine W1 rfl ?_ ?_|refine W2 rfl ?_ ?_|refine W3 rfl ?_ ?_|refine W4 ?_ ?_|refine W5 rfl ?_ ?_|refine W6 ?_ ?_|refine AppN.ns ?_|refine X1 (W1 rfl ?_ ?_)|refine X1 (W2 rfl ?_ ?_)|refine X2 (W7 rfl ?_ ?_)|refine X3 (W7 rfl ?_ ?_)|refine X4 (W7 rfl ?_ ?_)|refine X5 (W7 rfl ?_ ?_))
    all_goals (try (conv => whnf))
    all_goals (try first|exact Ob.mk (u8_bnd _)|(refine Ob.mk ?_;first|exact True.intro|assumption|omega|(try simp only [ZA,ZB,ZC,ZD,ZE,ZF,ZG,ZH,ZI,ZJ,ZK,ZL,ZM,ZN,ZO,Int.toNat_natCast,UInt8.ofNat_toNat,cast_eq] at *;omega)))
    all_goals (try first|(show (_:Int) = _;omega)|(show tupSV _ = _;with_unfolding_all rfl)|((first|show (_:Nat) ≤ _|show (_:Nat) ≤ _ ∧ (_:Nat) ≤ _|show (_:Int) ≤ _ ∧ (_:Int) ≤ _ ∧ (_:Int) ≤ _ ∧ (_:Int) ≤ _);(simp <;> omega)))
    all_goals (try simp only [bytes30, bytesB30, bytes64, bytesB64, List.length_singleton] at *)
    · have h64 := (small_at hsm k (isT_iff.2 hk)).1
      simp only [cast_eq, List.length_nil, Nat.zero_add]
      change ((nd t k).2.2.2.1.length * 32 ≤ _ ∧ (nd t k).2.2.2.1.length ≤ _)
      omega
    refine LoopStop.mk (α := List NodeD × List Bool × Nat) (fun a => [(13, .int .i64 a.2.2)]) (fun a => [(6, .nst nodeTy 6 a.1 none), (0, .ow .bool a.2.1)]) 20
      (fun a => pS t (kidsOf t) a.1 a.2.1 0 k.toNat a.2.2 = putO t (kidsOf t) [] s k.toNat up ∧ sS (kidsOf t) a.2.1 k.toNat a.2.2 = putS (kidsOf t) s k.toNat ∧ a.2.1.length = t.length ∧ a.1.length + unseen a.2.1 ≤ 5000 ∧
        0 < a.1.length ∧ (a.1.getD 0 nodeTy.dflt).kids.length ≤ a.2.2 ∧ a.2.2 ≤ (kidsOf t k.toNat).length)
      (fun a => (kidsOf t k.toNat).length - a.2.2) ([] ++ [mkN (t.getD k.toNat nodeTy.dflt) up], s.set k.toNat true, 0) ⟨rfl, rfl, by simpa using hsl, by simp only [List.length_append, List.length_singleton, List.length_nil]; omega, by simp, by simp [mkN, NodeD.kids], Nat.zero_le _⟩ ?_ (fun a ha => ?_)
    · repeat' ((conv => whnf);first|(with_reducible first|rfl|exact absTF|exact absFT)|exact True.intro|intro _|refine And.intro ?_ ?_|refine Fin.mk ?_|refine W1 rfl ?_ ?_|refine W2 rfl ?_ ?_|refine W3 rfl ?_ ?_|refine W4 ?_ ?_|refine W5 rfl ?_ ?_|refine W6 ?_ ?_|refine AppN.mk ?_|refine X1 (W1 rfl ?_ ?_)|refine X1 (W2 rfl ?_ ?_)|refine X2 (W7 rfl ?_ ?_)|refine X3 (W7 rfl ?_ ?_)|refine X4 (W7 rfl ?_ ?_)|refine X5 (W7 rfl ?_ ?_))
      all_goals (try (conv => whnf))
      all_goals (try first|exact Ob.mk (u8_bnd _)|(refine Ob.mk ?_;first|exact True.intro|assumption|omega|(try simp only [ZA,ZB,ZC,ZD,ZE,ZF,ZG,ZH,ZI,ZJ,ZK,ZL,ZM,ZN,ZO,Int.toNat_natCast,UInt8.ofNat_toNat,cast_eq] at *;omega)))
      all_goals (try first|(show (_:Int) = _;omega)|(show tupSV _ = _;with_unfolding_all rfl)|((first|show (_:Nat) ≤ _|show (_:Nat) ≤ _ ∧ (_:Nat) ≤ _|show (_:Int) ≤ _ ∧ (_:Int) ≤ _ ∧ (_:Int) ≤ _ ∧ (_:Int) ≤ _);(simp <;> omega)))
      all_goals (first | rfl | skip)
    · obtain ⟨o, q, j⟩ := a
      dsimp only at ha ⊢
      obtain ⟨h1, h2, h3, h4, h5, h6, h7⟩ := ha
      repeat' ((conv => whnf);first|(with_reducible first|rfl|exact absTF|exact absFT)|exact True.intro|intro _|refine And.intro ?_ ?_|refine Fin.mk ?_|refine W1 rfl ?_ ?_|refine W2 rfl ?_ ?_|refine W3 rfl ?_ ?_|refine W4 ?_ ?_|refine W5 rfl ?_ ?_|refine W6 ?_ ?_|refine AppN.mk ?_|refine X1 (W1 rfl ?_ ?_)|refine X1 (W2 rfl ?_ ?_)|refine X2 (W7 rfl ?_ ?_)|refine X3 (W7 rfl ?_ ?_)|refine X4 (W7 rfl ?_ ?_)|refine X5 (W7 rfl ?_ ?_))
      all_goals (try (conv => whnf))
      all_goals (try first|exact Ob.mk (u8_bnd _)|(refine Ob.mk ?_;first|exact True.intro|assumption|omega|(try simp only [ZA,ZB,ZC,ZD,ZE,ZF,ZG,ZH,ZI,ZJ,ZK,ZL,ZM,ZN,ZO,Int.toNat_natCast,UInt8.ofNat_toNat,cast_eq] at *;omega)))
      all_goals (try first|(show (_:Int) = _;omega)|(show tupSV _ = _;with_unfolding_all rfl)|((first|show (_:Nat) ≤ _|show (_:Nat) ≤ _ ∧ (_:Nat) ≤ _|show (_:Int) ≤ _ ∧ (_:Int) ≤ _ ∧ (_:Int) ≤ _ ∧ (_:Int) ≤ _);(simp <;> omega)))
      all_goals (try simp only [Int.toNat_natCast] at *)
      · rename_i c1 c2 c3
        have hj : j < (kidsOf t k.toNat).length := by have h := of_decide_eq_true c2; exact Int.ofNat_lt.mp h
        have hc : okK q ((kidsOf t k.toNat).getD j 0) = true := by rw [← cnd14 h3]; exact c3
        refine ZStop.mk [] [(6, .nst nodeTy 6 (addAt o 0 o.length) none)] 60 ?_
        have o1 : Ob (0 ≤ (0 : Int) ∧ (0 : Int) < o.length) := Ob.mk ⟨by omega, by omega⟩
        have o2 : Ob ((0 : Int).toNat < o.length) := Ob.mk (by omega)
        have hkl : (kidsOf t k.toNat).length ≤ 1000 := (small_at hsm k (isT_iff.2 hk)).2
        have o3 : Ob (0 < o.length ∧ ((o.getD 0 nodeTy.dflt).kids.length + 1) * 8 ≤ 70368744177664 ∧ (o.getD 0 nodeTy.dflt).kids.length + 1 ≤ 70368744177664) := Ob.mk ⟨h5, by omega, by omega⟩
        have hok := okK_spec hc
        have hu := unseen_set hok.2.2
        repeat' ((conv => whnf);first|(with_reducible first|rfl|exact absTF|exact absFT)|exact True.intro|intro _|refine And.intro ?_ ?_|refine Fin.mk ?_|refine W1 rfl ?_ ?_|refine W2 rfl ?_ ?_|refine W3 rfl ?_ ?_|refine W4 ?_ ?_|refine W5 rfl ?_ ?_|refine W6 ?_ ?_|refine AppN.mk ?_|refine X1 (W1 rfl ?_ ?_)|refine X1 (W2 rfl ?_ ?_)|refine X2 (W7 rfl ?_ ?_)|refine X3 (W7 rfl ?_ ?_)|refine X4 (W7 rfl ?_ ?_)|refine X5 (W7 rfl ?_ ?_))
        all_goals (try (conv => whnf))
        all_goals (first | exact o1 | exact o2 | exact o3 | exact Ob.mk rfl | (refine Ob.mk ?_; rw [List.length_set]; first | exact o1.h | exact o2.h) | skip)
        any_goals (refine Rnd.mk (p := matK _ _ _ _ _) ?_)
        repeat' ((conv => whnf);first|(with_reducible first|rfl|exact absTF|exact absFT)|exact True.intro|intro _|refine And.intro ?_ ?_|refine Fin.mk ?_|refine W1 rfl ?_ ?_|refine W2 rfl ?_ ?_|refine W3 rfl ?_ ?_|refine W4 ?_ ?_|refine W5 rfl ?_ ?_|refine W6 ?_ ?_|refine AppN.mk ?_|refine X1 (W1 rfl ?_ ?_)|refine X1 (W2 rfl ?_ ?_)|refine X2 (W7 rfl ?_ ?_)|refine X3 (W7 rfl ?_ ?_)|refine X4 (W7 rfl ?_ ?_)|refine X5 (W7 rfl ?_ ?_))
        all_goals (try (conv => whnf))
        all_goals (try exact congrArg (fun l => Chunk.nst nodeTy 6 l none) (addAt_fin o 0 o.length h5))
        · refine Ob.mk ⟨hsm, h3, ⟨hok.1, by have h := hok.2.1; rw [h3] at h; exact (by omega : (kidsOf t k.toNat).getD j 0 < (t.length : Int))⟩, by rw [addAt_len]; change o.length + unseen (q.set ((kidsOf t k.toNat).getD j 0).toNat true) + 1 ≤ _; omega⟩
        · exact Ob.mk ⟨by omega, by omega⟩
        obtain ⟨e1, e2⟩ := pS_ok (t := t) (out := o) (p := 0) hj hc
        rw [e1] at h1; rw [e2] at h2
        obtain ⟨l1, l2, l3, l4⟩ := putO_len (t := t) (K := kidsOf t) (addAt o 0 o.length) q ((kidsOf t k.toNat).getD j 0).toNat 0
        rw [addAt_len] at l1 l2 l3
        refine Rnd.mk ⟨(putO t (kidsOf t) (addAt o 0 o.length) q ((kidsOf t k.toNat).getD j 0).toNat 0, putS (kidsOf t) q ((kidsOf t k.toNat).getD j 0).toNat, j + 1), ⟨h1, h2, l4.trans h3, by dsimp only; omega, by dsimp only; omega, ?_, by show j + 1 ≤ _; omega⟩, by show _ - (j + 1) < _; omega, ?_⟩
        · dsimp only
          rw [l3 _ h5, addAt_kids _ _ _ h5, List.length_append, List.length_singleton]
          exact Nat.succ_le_succ h6
        · repeat' ((conv => whnf);first|(with_reducible first|rfl|exact absTF|exact absFT)|exact True.intro|intro _|refine And.intro ?_ ?_|refine Fin.mk ?_|refine W1 rfl ?_ ?_|refine W2 rfl ?_ ?_|refine W3 rfl ?_ ?_|refine W4 ?_ ?_|refine W5 rfl ?_ ?_|refine W6 ?_ ?_|refine AppN.mk ?_|refine X1 (W1 rfl ?_ ?_)|refine X1 (W2 rfl ?_ ?_)|refine X2 (W7 rfl ?_ ?_)|refine X3 (W7 rfl ?_ ?_)|refine X4 (W7 rfl ?_ ?_)|refine X5 (W7 rfl ?_ ?_))
          all_goals (try (conv => whnf))
          all_goals (try first|exact Ob.mk (u8_bnd _)|(refine Ob.mk ?_;first|exact True.intro|assumption|omega|(try simp only [ZA,ZB,ZC,ZD,ZE,ZF,ZG,ZH,ZI,ZJ,ZK,ZL,ZM,ZN,ZO,Int.toNat_natCast,UInt8.ofNat_toNat,cast_eq] at *;omega)))
          all_goals (try first|(show (_:Int) = _;omega)|(show tupSV _ = _;with_unfolding_all rfl)|((first|show (_:Nat) ≤ _|show (_:Nat) ≤ _ ∧ (_:Nat) ≤ _|show (_:Int) ≤ _ ∧ (_:Int) ≤ _ ∧ (_:Int) ≤ _ ∧ (_:Int) ≤ _);(simp <;> omega)))
          all_goals (try rfl)
      · rename_i c1 c2 c3
        have hj : j < (kidsOf t k.toNat).length := by have h := of_decide_eq_true c2; exact Int.ofNat_lt.mp h
        have hc : okK q ((kidsOf t k.toNat).getD j 0) = false := by rw [← cnd14 h3]; exact c3
        obtain ⟨e1, e2⟩ := pS_bad (t := t) (out := o) (p := 0) hj hc
        rw [e1] at h1; rw [e2] at h2
        refine Rnd.mk ⟨(o, q, j + 1), ⟨h1, h2, h3, h4, h5, Nat.le_succ_of_le h6, by show j + 1 ≤ _; omega⟩, by show _ - (j + 1) < _; omega, ?_⟩
        repeat' ((conv => whnf);first|(with_reducible first|rfl|exact absTF|exact absFT)|exact True.intro|intro _|refine And.intro ?_ ?_|refine Fin.mk ?_|refine W1 rfl ?_ ?_|refine W2 rfl ?_ ?_|refine W3 rfl ?_ ?_|refine W4 ?_ ?_|refine W5 rfl ?_ ?_|refine W6 ?_ ?_|refine AppN.mk ?_|refine X1 (W1 rfl ?_ ?_)|refine X1 (W2 rfl ?_ ?_)|refine X2 (W7 rfl ?_ ?_)|refine X3 (W7 rfl ?_ ?_)|refine X4 (W7 rfl ?_ ?_)|refine X5 (W7 rfl ?_ ?_))
        all_goals (try (conv => whnf))
        all_goals (try first|exact Ob.mk (u8_bnd _)|(refine Ob.mk ?_;first|exact True.intro|assumption|omega|(try simp only [ZA,ZB,ZC,ZD,ZE,ZF,ZG,ZH,ZI,ZJ,ZK,ZL,ZM,ZN,ZO,Int.toNat_natCast,UInt8.ofNat_toNat,cast_eq] at *;omega)))
        all_goals (try first|(show (_:Int) = _;omega)|(show tupSV _ = _;with_unfolding_all rfl)|((first|show (_:Nat) ≤ _|show (_:Nat) ≤ _ ∧ (_:Nat) ≤ _|show (_:Int) ≤ _ ∧ (_:Int) ≤ _ ∧ (_:Int) ≤ _ ∧ (_:Int) ≤ _);(simp <;> omega)))
        all_goals (try rfl)
      all_goals (rename_i c1 c2)
      all_goals (have hj : ¬ j < (kidsOf t k.toNat).length := by have h := of_decide_eq_false c2; exact fun q => h (Int.ofNat_lt.mpr q))
      all_goals (obtain ⟨e1, e2⟩ := pS_end (t := t) (out := o) (p := 0) (s := q) hj; rw [e1] at h1; rw [e2] at h2)
      · rw [h1]
end Go.Vc

namespace Go.Vc
open Go.Proofs
set_option maxRecDepth 10000
set_option maxHeartbeats 4000000
def tidyT (t : List NodeD) : List NodeD := if t = [] then [rootN] else putO t (kidsOf t) [] (List.replicate t.length false) 0 (-1)
theorem unseen_len (s : List Bool) : unseen s ≤ s.length := List.count_le_length
theorem pPre_tidy {t : List NodeD} (h : smallT t = true) (h0 : ¬ ((t.length : Int) == 0) = true) : pPre t [] (List.replicate t.length false) 0 := by
  have h1 : 0 < t.length := by
    rcases Nat.eq_zero_or_pos t.length with h | h
    · exact absurd (by rw [h]; rfl) h0
    · exact h
  have h2 := small_len h
  have h3 := unseen_len ((List.replicate t.length false).set 0 true)
  rw [List.length_set, List.length_replicate] at h3
  refine ⟨h, List.length_replicate, ⟨Int.le_refl 0, by omega⟩, ?_⟩
  show 0 + unseen ((List.replicate t.length false).set 0 true) + 1 ≤ 5000
  omega
theorem tidy_nil {t : List NodeD} (h0 : ((t.length : Int) == 0) = true) : tidyT t = [rootN] := by
  have h1 : t.length = 0 := by have := eq_of_beq h0; omega
  unfold tidyT; rw [if_pos (List.length_eq_zero_iff.1 h1)]
theorem tidy_eq {t : List NodeD} (h0 : ¬ ((t.length : Int) == 0) = true) : tidyT t = putO t (kidsOf t) [] (List.replicate t.length false) 0 (-1) := by
  unfold tidyT; rw [if_neg (fun h => h0 (by rw [h]; rfl))]
instance hTidyN (t : List NodeD) : FnM BN 24 [.agg [.rd nodeTy t]] [] (smallT t = true) (.agg [.rd nodeTy (tidyT t)]) [] := by
  refine FnM.intro (N := 15) [0, 1, 2, 6] [(3, [4, 4, 0, 4, 4, 4, 4, 4])] 0 Try.call24 Try.func24 rfl rfl (by kernel_rfl) (fun hpre => ?_)
  repeat' ((conv => whnf);first|(with_reducible first|rfl|exact absTF|exact absFT)|exact True.intro|intro _|refine And.intro ?_ ?_|refine Fin.mk ?_|refine W1 rfl ?_ ?_|refine W2 rfl ?_ ?_|refine W3 rfl ?_ ?_|refine W4 ?_ ?_|refine W5 rfl ?_ ?_|refine W6 ?_ ?_|refine AppN.mk ?_|refine X1 (W1 rfl ?_ ?_)|refine X1 (W2 rfl ?_ ?_)|refine X2 (W7 rfl ?_ ?_)|refine X3 (W7 rfl ?_ ?_)|refine X4 (W7 rfl ?_ ?_)|refine X5 (W7 rfl ?_ ?_))
  all_goals (try (conv => whnf))
  all_goals (try first|exact Ob.mk (u8_bnd _)|(refine Ob.mk ?_;first|exact True.intro|assumption|omega|(try simp only [ZA,ZB,ZC,ZD,ZE,ZF,ZG,ZH,ZI,ZJ,ZK,ZL,ZM,ZN,ZO,Int.toNat_natCast,UInt8.ofNat_toNat,cast_eq] at *;omega)))
  all_goals (try first|(show (_:Int) = _;omega)|(show tupSV _ = _;with_unfolding_all rfl)|((first|show (_:Nat) ≤ _|show (_:Nat) ≤ _ ∧ (_:Nat) ≤ _|show (_:Int) ≤ _ ∧ (_:Int) ≤ _ ∧ (_:Int) ≤ _ ∧ (_:Int) ≤ _);(simp <;> omega)))
  · rw [tidy_nil ‹_›]
  all_goals (have h0 : ¬ ((t.length : Int) == 0) = true := by rw [show ((t.length : Int) == 0) = false from by assumption]; decide)
  all_goals (first | exact pPre_tidy hpre h0 | (rw [tidy_eq h0]; rfl) | trace_state)
  all_goals (have := small_len hpre; refine ⟨by omega, by omega, by show (t.length : Int) * 1 ≤ _; omega, by omega⟩)
instance hTidy14 (t : List NodeD) : FnM BB 24 [.agg [.rd nodeTy t]] [] (smallT t = true) (.agg [.rd nodeTy (tidyT t)]) [] :=
  have h := hTidyN t
  ⟨h.call, h.ok⟩
end Go.Vc

namespace Go.Vc
open Go.Proofs
set_option maxRecDepth 10000
instance f40 (k s : Int) (nm : List UInt8) (at_ : List AttrD) (d : List UInt8) (up : Int) (kids : List Int) (k' s' : Int) (nm' : List UInt8) (at_' : List AttrD) (d' : List UInt8) (up' : Int) (kids' : List Int) :
    Fn BB 60 [.agg [.int .i64 k, .int .i64 s, .str nm, .rd attrTy at_, .str d, .int .i64 up, .rd intTy kids], .agg [.int .i64 k', .int .i64 s', .str nm', .rd attrTy at_', .str d', .int .i64 up', .rd intTy kids']]
      True (.bool (eqB (α := NodeD) (k, s, nm, at_, d, up, kids) (k', s', nm', at_', d', up', kids'))) := by
  refine Fn.intro (N := 71) [0, 1, 2, 3, 4, 5, 47, 52, 65] [(6, [0, 1, 0, 1, 1, 0, 1, 0, 1, 1, 3])] Try.call60 Try.func60 rfl rfl (by kernel_rfl) (fun hpre => ?_)
  repeat' ((conv => whnf);first|(with_reducible first|rfl|exact absTF|exact absFT)|exact True.intro|intro _|refine And.intro ?_ ?_|refine Fin.mk ?_|refine W1 rfl ?_ ?_|refine W2 rfl ?_ ?_|refine W3 rfl ?_ ?_|refine W4 ?_ ?_|refine W5 rfl ?_ ?_|refine W6 ?_ ?_|refine AppN.mk ?_|refine X1 (W1 rfl ?_ ?_)|refine X1 (W2 rfl ?_ ?_)|refine X2 (W7 rfl ?_ ?_)|refine X3 (W7 rfl ?_ ?_)|refine X4 (W7 rfl ?_ ?_)|refine X5 (W7 rfl ?_ ?_))
  all_goals (try (conv => whnf))
  all_goals (try first|exact Ob.mk (u8_bnd _)|(refine Ob.mk ?_;first|exact True.intro|assumption|omega|(try simp only [ZA,ZB,ZC,ZD,ZE,ZF,ZG,ZH,ZI,ZJ,ZK,ZL,ZM,ZN,ZO,Int.toNat_natCast,UInt8.ofNat_toNat,cast_eq] at *;omega)))
  all_goals (try first|(show (_:Int) = _;omega)|(show tupSV _ = _;with_unfolding_all rfl)|((first|show (_:Nat) ≤ _|show (_:Nat) ≤ _ ∧ (_:Nat) ≤ _|show (_:Int) ≤ _ ∧ (_:Int) ≤ _ ∧ (_:Int) ≤ _ ∧ (_:Int) ≤ _);(simp <;> omega)))
  · rename_i h
    refine eqB_false fun e => ?_
    simp only [Prod.mk.injEq] at e
    obtain ⟨rfl, rfl, rfl, rfl, rfl, rfl, rfl⟩ := e
    simp at h
  · rename_i h
    simp only [Bool.or_eq_false_iff, bne_eq_false_iff_eq, Bool.not_eq_false', beq_iff_eq] at h
    obtain ⟨⟨⟨⟨⟨rfl, rfl⟩, rfl⟩, rfl⟩, rfl⟩, hl⟩ := h
    refine LoopStop.mk (α := Nat) (fun i => [(5, .int .i64 i)]) (fun _ => []) 20 (fun i => i ≤ kids.length ∧ kids.take i = kids'.take i) (fun i => kids.length - i) 0 (by simp) ?_ (fun i hi => ?_)
    · repeat' ((conv => whnf);first|(with_reducible first|rfl|exact absTF|exact absFT)|exact True.intro|intro _|refine And.intro ?_ ?_|refine Fin.mk ?_|refine W1 rfl ?_ ?_|refine W2 rfl ?_ ?_|refine W3 rfl ?_ ?_|refine W4 ?_ ?_|refine W5 rfl ?_ ?_|refine W6 ?_ ?_|refine AppN.mk ?_|refine X1 (W1 rfl ?_ ?_)|refine X1 (W2 rfl ?_ ?_)|refine X2 (W7 rfl ?_ ?_)|refine X3 (W7 rfl ?_ ?_)|refine X4 (W7 rfl ?_ ?_)|refine X5 (W7 rfl ?_ ?_))
      all_goals (try (conv => whnf))
      all_goals (try rfl)
    · obtain ⟨hi, ha⟩ := hi
      repeat' ((conv => whnf);first|(with_reducible first|rfl|exact absTF|exact absFT)|exact True.intro|intro _|refine And.intro ?_ ?_|refine Fin.mk ?_|refine W1 rfl ?_ ?_|refine W2 rfl ?_ ?_|refine W3 rfl ?_ ?_|refine W4 ?_ ?_|refine W5 rfl ?_ ?_|refine W6 ?_ ?_|refine AppN.mk ?_|refine X1 (W1 rfl ?_ ?_)|refine X1 (W2 rfl ?_ ?_)|refine X2 (W7 rfl ?_ ?_)|refine X3 (W7 rfl ?_ ?_)|refine X4 (W7 rfl ?_ ?_)|refine X5 (W7 rfl ?_ ?_))
      all_goals (try (conv => whnf))
      all_goals (try first|exact Ob.mk (u8_bnd _)|(refine Ob.mk ?_;first|exact True.intro|assumption|omega|(try simp only [ZA,ZB,ZC,ZD,ZE,ZF,ZG,ZH,ZI,ZJ,ZK,ZL,ZM,ZN,ZO,Int.toNat_natCast,UInt8.ofNat_toNat,cast_eq] at *;omega)))
      all_goals (try first|(show (_:Int) = _;omega)|(show tupSV _ = _;with_unfolding_all rfl)|((first|show (_:Nat) ≤ _|show (_:Nat) ≤ _ ∧ (_:Nat) ≤ _|show (_:Int) ≤ _ ∧ (_:Int) ≤ _ ∧ (_:Int) ≤ _ ∧ (_:Int) ≤ _);(simp <;> omega)))
      all_goals (simp only [decide_eq_true_eq, decide_eq_false_iff_not, bne_eq_false_iff_eq, bne_iff_ne, ne_eq, Bool.not_eq_true', Bool.not_eq_false', Bool.and_true] at *)
      · rename_i h
        refine eqB_false fun e => h ?_
        simp only [Prod.mk.injEq] at e
        rw [e.2.2.2.2.2.2]
      · rename_i h
        have hil : i < kids.length := by omega
        refine Rnd.mk ⟨i + 1, ?_, ?_, ?_⟩
        · exact ⟨by omega, take_eq_snoc (d := intTy.dflt) hil (by omega) ha h⟩
        · omega
        · repeat' ((conv => whnf);first|(with_reducible first|rfl|exact absTF|exact absFT)|exact True.intro|intro _|refine And.intro ?_ ?_|refine Fin.mk ?_|refine W1 rfl ?_ ?_|refine W2 rfl ?_ ?_|refine W3 rfl ?_ ?_|refine W4 ?_ ?_|refine W5 rfl ?_ ?_|refine W6 ?_ ?_|refine AppN.mk ?_|refine X1 (W1 rfl ?_ ?_)|refine X1 (W2 rfl ?_ ?_)|refine X2 (W7 rfl ?_ ?_)|refine X3 (W7 rfl ?_ ?_)|refine X4 (W7 rfl ?_ ?_)|refine X5 (W7 rfl ?_ ?_))
          all_goals (try (conv => whnf))
          all_goals (try first|exact Ob.mk (u8_bnd _)|(refine Ob.mk ?_;first|exact True.intro|assumption|omega|(try simp only [ZA,ZB,ZC,ZD,ZE,ZF,ZG,ZH,ZI,ZJ,ZK,ZL,ZM,ZN,ZO,Int.toNat_natCast,UInt8.ofNat_toNat,cast_eq] at *;omega)))
          all_goals (try first|(show (_:Int) = _;omega)|(show tupSV _ = _;with_unfolding_all rfl)|((first|show (_:Nat) ≤ _|show (_:Nat) ≤ _ ∧ (_:Nat) ≤ _|show (_:Int) ≤ _ ∧ (_:Int) ≤ _ ∧ (_:Int) ≤ _ ∧ (_:Int) ≤ _);(simp <;> omega)))
      · have hk : i = kids.length := by omega
        subst hk
        rw [List.take_length, List.take_of_length_le (by omega)] at ha
        subst ha
        by_cases he : at_ = at_'
        · subst he; rw [decide_eq_true rfl]; exact eqB_true rfl
        · rw [decide_eq_false he]; refine eqB_false fun e => he ?_
          simp only [Prod.mk.injEq] at e
          exact e.2.2.2.1
instance f16 (a b : List NodeD) : Fn BB 22 [.agg [.rd nodeTy a], .agg [.rd nodeTy b]] True (.bool (eqB a b)) := by
  refine Fn.intro (N := 32) [0, 1, 2, 3, 4, 5, 12, 17, 31] [(6, [0, 1, 0, 1, 1, 0, 1, 0, 1, 1, 3, 3])] Try.call22 Try.func22 rfl rfl (by kernel_rfl) (fun hpre => ?_)
  repeat' ((conv => whnf);first|(with_reducible first|rfl|exact absTF|exact absFT)|exact True.intro|intro _|refine And.intro ?_ ?_|refine Fin.mk ?_|refine W1 rfl ?_ ?_|refine W2 rfl ?_ ?_|refine W3 rfl ?_ ?_|refine W4 ?_ ?_|refine W5 rfl ?_ ?_|refine W6 ?_ ?_|refine AppN.mk ?_|refine X1 (W1 rfl ?_ ?_)|refine X1 (W2 rfl ?_ ?_)|refine X2 (W7 rfl ?_ ?_)|refine X3 (W7 rfl ?_ ?_)|refine X4 (W7 rfl ?_ ?_)|refine X5 (W7 rfl ?_ ?_))
  all_goals (try (conv => whnf))
  · refine eqB_false fun e => ?_
    subst e; simp_all
  · refine LoopStop.mk (α := Nat) (fun i => [(5, .int .i64 i)]) (fun _ => []) 20 (fun i => i ≤ a.length ∧ a.take i = b.take i) (fun i => a.length - i) 0 (by simp) ?_ (fun i hi => ?_)
    · repeat' ((conv => whnf);first|(with_reducible first|rfl|exact absTF|exact absFT)|exact True.intro|intro _|refine And.intro ?_ ?_|refine Fin.mk ?_|refine W1 rfl ?_ ?_|refine W2 rfl ?_ ?_|refine W3 rfl ?_ ?_|refine W4 ?_ ?_|refine W5 rfl ?_ ?_|refine W6 ?_ ?_|refine AppN.mk ?_|refine X1 (W1 rfl ?_ ?_)|refine X1 (W2 rfl ?_ ?_)|refine X2 (W7 rfl ?_ ?_)|refine X3 (W7 rfl ?_ ?_)|refine X4 (W7 rfl ?_ ?_)|refine X5 (W7 rfl ?_ ?_))
      all_goals (try (conv => whnf))
      all_goals (try rfl)
    · obtain ⟨hi, ha⟩ := hi
      repeat' ((conv => whnf);first|(with_reducible first|rfl|exact absTF|exact absFT)|exact True.intro|intro _|refine And.intro ?_ ?_|refine Fin.mk ?_|refine W1 rfl ?_ ?_|refine W2 rfl ?_ ?_|refine W3 rfl ?_ ?_|refine W4 ?_ ?_|refine W5 rfl ?_ ?_|refine W6 ?_ ?_|refine AppN.mk ?_|refine X1 (W1 rfl ?_ ?_)|refine X1 (W2 rfl ?_ ?_)|refine X2 (W7 rfl ?_ ?_)|refine X3 (W7 rfl ?_ ?_)|refine X4 (W7 rfl ?_ ?_)|refine X5 (W7 rfl ?_ ?_))
      all_goals (try (conv => whnf))
      all_goals (try first|exact Ob.mk (u8_bnd _)|(refine Ob.mk ?_;first|exact True.intro|assumption|omega|(try simp only [ZA,ZB,ZC,ZD,ZE,ZF,ZG,ZH,ZI,ZJ,ZK,ZL,ZM,ZN,ZO,Int.toNat_natCast,UInt8.ofNat_toNat,cast_eq] at *;omega)))
      all_goals (try first|(show (_:Int) = _;omega)|(show tupSV _ = _;with_unfolding_all rfl)|((first|show (_:Nat) ≤ _|show (_:Nat) ≤ _ ∧ (_:Nat) ≤ _|show (_:Int) ≤ _ ∧ (_:Int) ≤ _ ∧ (_:Int) ≤ _ ∧ (_:Int) ≤ _);(simp <;> omega)))
      all_goals (simp only [decide_eq_true_eq, decide_eq_false_iff_not, bne_eq_false_iff_eq, bne_iff_ne, ne_eq, Bool.not_eq_true', Bool.not_eq_false', Bool.and_true] at *)
      · rename_i h
        have h := eqB_no.1 h
        refine eqB_false fun e => h ?_
        rw [e]
      · rename_i h
        have h := eqB_iff.1 h
        have hil : i < a.length := by omega
        refine Rnd.mk ⟨i + 1, ?_, ?_, ?_⟩
        · exact ⟨by omega, take_eq_snoc (d := nodeTy.dflt) hil (by omega) ha h⟩
        · omega
        · repeat' ((conv => whnf);first|(with_reducible first|rfl|exact absTF|exact absFT)|exact True.intro|intro _|refine And.intro ?_ ?_|refine Fin.mk ?_|refine W1 rfl ?_ ?_|refine W2 rfl ?_ ?_|refine W3 rfl ?_ ?_|refine W4 ?_ ?_|refine W5 rfl ?_ ?_|refine W6 ?_ ?_|refine AppN.mk ?_|refine X1 (W1 rfl ?_ ?_)|refine X1 (W2 rfl ?_ ?_)|refine X2 (W7 rfl ?_ ?_)|refine X3 (W7 rfl ?_ ?_)|refine X4 (W7 rfl ?_ ?_)|refine X5 (W7 rfl ?_ ?_))
          all_goals (try (conv => whnf))
          all_goals (try first|exact Ob.mk (u8_bnd _)|(refine Ob.mk ?_;first|exact True.intro|assumption|omega|(try simp only [ZA,ZB,ZC,ZD,ZE,ZF,ZG,ZH,ZI,ZJ,ZK,ZL,ZM,ZN,ZO,Int.toNat_natCast,UInt8.ofNat_toNat,cast_eq] at *;omega)))
          all_goals (try first|(show (_:Int) = _;omega)|(show tupSV _ = _;with_unfolding_all rfl)|((first|show (_:Nat) ≤ _|show (_:Nat) ≤ _ ∧ (_:Nat) ≤ _|show (_:Int) ≤ _ ∧ (_:Int) ≤ _ ∧ (_:Int) ≤ _ ∧ (_:Int) ≤ _);(simp <;> omega)))
      · have hk : i = a.length := by omega
        subst hk
        rw [List.take_length, List.take_of_length_le (by omega)] at ha
        exact eqB_true ha
end Go.Vc

namespace Go.Vc
open Go.Proofs
set_option maxRecDepth 10000
def topS (l : List Int) : Int := bif decide (l.length = 0) then -1 else l.getD (l.length - 1) 0
instance s46 (l : List Int) : Fn BB 91 [.rd intTy l] True (.int .i64 (topS l)) := by
  refine Fn.intro (N := 13) [0, 2, 3, 7] [] Try.call91 Try.func91 rfl rfl (by kernel_rfl) (fun hpre => ?_)
  repeat' ((conv => whnf);first|(with_reducible first|rfl|exact absTF|exact absFT)|exact True.intro|intro _|refine And.intro ?_ ?_|refine Fin.mk ?_|refine W1 rfl ?_ ?_|refine W2 rfl ?_ ?_|refine W3 rfl ?_ ?_|refine W4 ?_ ?_|refine W5 rfl ?_ ?_|refine W6 ?_ ?_|refine AppN.mk ?_|refine X1 (W1 rfl ?_ ?_)|refine X1 (W2 rfl ?_ ?_)|refine X2 (W7 rfl ?_ ?_)|refine X3 (W7 rfl ?_ ?_)|refine X4 (W7 rfl ?_ ?_)|refine X5 (W7 rfl ?_ ?_))
  all_goals (try (conv => whnf))
  all_goals (try first|exact Ob.mk (u8_bnd _)|(refine Ob.mk ?_;first|exact True.intro|assumption|omega|(try simp only [ZA,ZB,ZC,ZD,ZE,ZF,ZG,ZH,ZI,ZJ,ZK,ZL,ZM,ZN,ZO,Int.toNat_natCast,UInt8.ofNat_toNat,cast_eq] at *;omega)))
  all_goals (try first|(show (_:Int) = _;omega)|(show tupSV _ = _;with_unfolding_all rfl)|((first|show (_:Nat) ≤ _|show (_:Nat) ≤ _ ∧ (_:Nat) ≤ _|show (_:Int) ≤ _ ∧ (_:Int) ≤ _ ∧ (_:Int) ≤ _ ∧ (_:Int) ≤ _);(simp <;> omega)))
  all_goals (rename_i h)
  · have := of_decide_eq_true h
    rw [topS, decide_eq_false (by omega), cond_false]; congr 1; omega
  · have := of_decide_eq_false h
    rw [topS, decide_eq_true (by omega)]; rfl
end Go.Vc

namespace Go.Vc
open Go.Proofs
set_option maxRecDepth 10000
set_option maxHeartbeats 8000000
instance u41e : FnM BB 31 [.str []] [] True (.loc 0 0)
      [(0, .box [.own 1, .nils, .nils, .int .i64 0, .int .i64 0, .int .i64 0, .int .i64 0, .int .i64 0, .bool false, .bool false, .str []]), (1, .own nodeTy [rootN])] := by
  refine FnM.intro (N := 40) [0, 2, 3, 4, 10] [] 2 Try.call31 Try.func31 rfl rfl (by kernel_rfl) (fun hpre => ?_)
  repeat' ((conv => whnf);first|(with_reducible first|rfl|exact absTF|exact absFT)|exact True.intro|(intro hq;(try (exfalso;revert hq;decide +kernel)))|refine And.intro ?_ ?_|refine Fin.mk ?_|refine W1 rfl ?_ ?_|refine W2 rfl ?_ ?_|refine W3 rfl ?_ ?_|refine W4 ?_ ?_|refine W5 rfl ?_ ?_|refine W6 ?_ ?_|refine AppN.mk ?_|refine X1 (W1 rfl ?_ ?_)|refine X1 (W2 rfl ?_ ?_)|refine X2 (W7 rfl ?_ ?_)|refine X3 (W7 rfl ?_ ?_)|refine X4 (W7 rfl ?_ ?_)|refine X5 (W7 rfl ?_ ?_))
  all_goals (try (conv => whnf))
  all_goals (try first|exact Ob.mk (u8_bnd _)|(refine Ob.mk ?_;first|exact True.intro|assumption|omega|(try simp only [ZA,ZB,ZC,ZD,ZE,ZF,ZG,ZH,ZI,ZJ,ZK,ZL,ZM,ZN,ZO,Int.toNat_natCast,UInt8.ofNat_toNat,cast_eq] at *;omega)))
  all_goals (try first|(show (_:Int) = _;omega)|(show tupSV _ = _;with_unfolding_all rfl)|((first|show (_:Nat) ≤ _|show (_:Nat) ≤ _ ∧ (_:Nat) ≤ _|show (_:Int) ≤ _ ∧ (_:Int) ≤ _ ∧ (_:Int) ≤ _ ∧ (_:Int) ≤ _);(simp <;> omega)))
  all_goals (first | rfl | decide | trace_state)
instance fAdj1 (md bk lx fm hd : Int) (fo sk : Bool) (ins : List UInt8) (t : List NodeD) (x : Int) : FnM BB 65 [.loc 0 0] [(0, .box [.own 1, .own 2, .nils, .int .i64 md, .int .i64 bk, .int .i64 lx, .int .i64 fm, .int .i64 hd, .bool fo, .bool sk, .str ins]), (1, .own nodeTy t), (2, .own intTy [x])] (ins ≠ [])
    (.agg [.int .i64 1, .int .i64 0, .str ins, .nils, .str [], .int .i64 0, .nils]) [(0, .box [.own 1, .own 2, .nils, .int .i64 md, .int .i64 bk, .int .i64 lx, .int .i64 fm, .int .i64 hd, .bool fo, .bool sk, .str ins]), (1, .own nodeTy t), (2, .own intTy [x])] := by
  refine FnM.intro (N := 40) [0, 2, 3, 9, 28] [] 3 Try.call65 Try.func65 rfl rfl (by kernel_rfl) (fun hpre => ?_)
  have e1 : (((([x] : List Int).length : Nat) : Int) == 1 && !ins == []) = true := by rw [beq_eq_false_iff_ne.2 hpre]; rfl
  repeat' ((conv => whnf);first|(with_reducible first|rfl|exact absTF|exact absFT)|exact True.intro|intro _|refine And.intro ?_ ?_|refine Fin.mk ?_|refine W1 rfl ?_ ?_|refine W2 rfl ?_ ?_|refine W3 rfl ?_ ?_|refine W4 ?_ ?_|refine W5 rfl ?_ ?_|refine W6 ?_ ?_|refine AppN.mk ?_|refine X1 (W1 rfl ?_ ?_)|refine X1 (W2 rfl ?_ ?_)|refine X2 (W7 rfl ?_ ?_)|refine X3 (W7 rfl ?_ ?_)|refine X4 (W7 rfl ?_ ?_)|refine X5 (W7 rfl ?_ ?_))
  all_goals (try (conv => whnf))
  all_goals (try first|exact Ob.mk (u8_bnd _)|(refine Ob.mk ?_;first|exact True.intro|assumption|omega|(try simp only [ZA,ZB,ZC,ZD,ZE,ZF,ZG,ZH,ZI,ZJ,ZK,ZL,ZM,ZN,ZO,Int.toNat_natCast,UInt8.ofNat_toNat,cast_eq] at *;omega)))
  all_goals (try first|(show (_:Int) = _;omega)|(show tupSV _ = _;with_unfolding_all rfl)|((first|show (_:Nat) ≤ _|show (_:Nat) ≤ _ ∧ (_:Nat) ≤ _|show (_:Int) ≤ _ ∧ (_:Int) ≤ _ ∧ (_:Int) ≤ _ ∧ (_:Int) ≤ _);(simp <;> omega)))
  all_goals (try (exfalso; have h : (((([x] : List Int).length : Nat) : Int) == 1 && !ins == []) = false := ‹_›; rw [e1] at h; cases h))
  all_goals (first | rfl | trace_state)
instance fIs1 (md bk lx fm hd : Int) (fo sk : Bool) (ins : List UInt8) (t : List NodeD) (op : List Int) (nm : List UInt8) : FnM BB 66 [.loc 0 0, .str nm] [(0, .box [.own 1, .own 2, .nils, .int .i64 md, .int .i64 bk, .int .i64 lx, .int .i64 fm, .int .i64 hd, .bool fo, .bool sk, .str ins]), (1, .own nodeTy t), (2, .own intTy op)] (shortN t ∧ nm.length ≤ 100000)
    (.bool (isE t (topS op) nm)) [(0, .box [.own 1, .own 2, .nils, .int .i64 md, .int .i64 bk, .int .i64 lx, .int .i64 fm, .int .i64 hd, .bool fo, .bool sk, .str ins]), (1, .own nodeTy t), (2, .own intTy op)] := by
  refine FnM.intro (N := 16) [0, 1, 4] [(1, [0, 0, 0, 1, 0, 0, 0, 1, 1, 0, 3, 3])] 3 Try.call66 Try.func66 rfl rfl (by kernel_rfl) (fun hpre => ?_)
  repeat' ((conv => whnf);first|(with_reducible first|rfl|exact absTF|exact absFT)|exact True.intro|intro _|refine And.intro ?_ ?_|refine Fin.mk ?_|refine W1 rfl ?_ ?_|refine W2 rfl ?_ ?_|refine W3 rfl ?_ ?_|refine W4 ?_ ?_|refine W5 rfl ?_ ?_|refine W6 ?_ ?_|refine AppN.mk ?_|refine X1 (W1 rfl ?_ ?_)|refine X1 (W2 rfl ?_ ?_)|refine X2 (W7 rfl ?_ ?_)|refine X3 (W7 rfl ?_ ?_)|refine X4 (W7 rfl ?_ ?_)|refine X5 (W7 rfl ?_ ?_))
  all_goals (try (conv => whnf))
  all_goals (try first|exact Ob.mk (u8_bnd _)|(refine Ob.mk ?_;first|exact True.intro|assumption|omega|(try simp only [ZA,ZB,ZC,ZD,ZE,ZF,ZG,ZH,ZI,ZJ,ZK,ZL,ZM,ZN,ZO,Int.toNat_natCast,UInt8.ofNat_toNat,cast_eq] at *;omega)))
  all_goals (try first|(show (_:Int) = _;omega)|(show tupSV _ = _;with_unfolding_all rfl)|((first|show (_:Nat) ≤ _|show (_:Nat) ≤ _ ∧ (_:Nat) ≤ _|show (_:Int) ≤ _ ∧ (_:Int) ≤ _ ∧ (_:Int) ≤ _ ∧ (_:Int) ≤ _);(simp <;> omega)))
  all_goals (first | exact hpre | exact trivial | trace_state)
end Go.Vc

namespace Go.Vc
open Go.Proofs
set_option maxRecDepth 10000
set_option maxHeartbeats 8000000
theorem newT_short : shortN newT := by
  intro i
  cases h : isT newT i with
  | false => rw [nodeE_out h]; decide
  | true =>
    rw [nodeE_in h]
    have h2 := isT_iff.1 h
    rw [newT_len] at h2
    obtain h3 | h3 : i = 0 ∨ i = 1 := by omega
    · subst h3; decide
    · subst h3; decide
instance wAwake : Fn BB 30 [] True (.bool true) := by
  refine Fn.intro (N := 65) [0, 1, 2, 3, 4, 7, 20] [] Try.call30 Try.func30 rfl rfl (by kernel_rfl) (fun hpre => ?_)
  repeat' ((conv => whnf);first|(with_reducible first|rfl|exact absTF|exact absFT)|exact True.intro|(intro hq;(try (exfalso;revert hq;decide +kernel)))|refine And.intro ?_ ?_|refine Fin.mk ?_|refine W1 rfl ?_ ?_|refine W2 rfl ?_ ?_|refine W3 rfl ?_ ?_|refine W4 ?_ ?_|refine W5 rfl ?_ ?_|refine W6 ?_ ?_|refine AppN.mk ?_|refine X1 (W1 rfl ?_ ?_)|refine X1 (W2 rfl ?_ ?_)|refine X2 (W7 rfl ?_ ?_)|refine X3 (W7 rfl ?_ ?_)|refine X4 (W7 rfl ?_ ?_)|refine X5 (W7 rfl ?_ ?_))
  all_goals (try (conv => whnf))
  all_goals (try first|exact Ob.mk (u8_bnd _)|(refine Ob.mk ?_;first|exact True.intro|assumption|omega|(try simp only [ZA,ZB,ZC,ZD,ZE,ZF,ZG,ZH,ZI,ZJ,ZK,ZL,ZM,ZN,ZO,Int.toNat_natCast,UInt8.ofNat_toNat,cast_eq] at *;omega)))
  all_goals (try first|(show (_:Int) = _;omega)|(show tupSV _ = _;with_unfolding_all rfl)|((first|show (_:Nat) ≤ _|show (_:Nat) ≤ _ ∧ (_:Nat) ≤ _|show (_:Int) ≤ _ ∧ (_:Int) ≤ _ ∧ (_:Int) ≤ _ ∧ (_:Int) ≤ _);(simp <;> omega)))
  all_goals (first | exact ⟨newT_short, by decide⟩ | decide +kernel)
instance wModes (ins : List UInt8) (md : Int) : Fn BB 7 [.str ins, .int .i64 md] True (.bool true) := by
  refine Fn.intro (N := 62) [0, 1, 4, 5, 6, 7, 14, 21] [(9, [0, 0, 0, 1, 0, 1, 1, 1, 1, 1, 1, 1, 1, 1, 1, 1, 1, 1, 1, 1, 1, 1, 1, 1, 3, 3, 3, 3, 3, 3, 3]), (1000009, [1,4])] Try.call7 Try.func7 rfl rfl (by kernel_rfl) (fun hpre => ?_)
  have hc : ∀ {p : Bool}, (p || ins == []) = false → ins ≠ [] := fun h e => by subst e; simp at h
  have hl : ∀ {p : Bool}, (decide ((ins.length : Int) > 40) || p) = false → ins.length ≤ 60 := fun h => by
    rw [Bool.or_eq_false_iff] at h
    have := of_decide_eq_false h.1
    omega
  repeat' ((conv => whnf);first|(with_reducible first|rfl|exact absTF|exact absFT)|exact True.intro|intro _|refine And.intro ?_ ?_|refine Fin.mk ?_|refine W1 rfl ?_ ?_|refine W2 rfl ?_ ?_|refine W3 rfl ?_ ?_|refine W4 ?_ ?_|refine W5 rfl ?_ ?_|refine W6 ?_ ?_|refine AppN.mk ?_|refine X1 (W1 rfl ?_ ?_)|refine X1 (W2 rfl ?_ ?_)|refine X2 (W7 rfl ?_ ?_)|refine X3 (W7 rfl ?_ ?_)|refine X4 (W7 rfl ?_ ?_)|refine X5 (W7 rfl ?_ ?_))
  all_goals (try (conv => whnf))
  all_goals (try first|exact Ob.mk (u8_bnd _)|(refine Ob.mk ?_;first|exact True.intro|assumption|omega|(try simp only [ZA,ZB,ZC,ZD,ZE,ZF,ZG,ZH,ZI,ZJ,ZK,ZL,ZM,ZN,ZO,Int.toNat_natCast,UInt8.ofNat_toNat,cast_eq] at *;omega)))
  all_goals (try first|(show (_:Int) = _;omega)|(show tupSV _ = _;with_unfolding_all rfl)|((first|show (_:Nat) ≤ _|show (_:Nat) ≤ _ ∧ (_:Nat) ≤ _|show (_:Int) ≤ _ ∧ (_:Int) ≤ _ ∧ (_:Int) ≤ _ ∧ (_:Int) ≤ _);(simp <;> omega)))
  all_goals (try have h := ‹(decide ((ins.length : Int) > 40) || ins == []) = false›; have h1 := hc h; have h2 := hl h)
  all_goals (try exact ⟨h1, h2⟩)
  all_goals (try exact ⟨⟨by decide, by decide⟩, h1⟩)
  all_goals (try (show smallT newT = true; decide))
  all_goals (rw [← eqB_true (rfl : tidyT newT = tidyT newT), beq_self_eq_true]; rfl)
end Go.Vc

namespace Go.Vc
open Go.Proofs
set_option maxRecDepth 100000
theorem base_ok (W : World) (hsh : W.ShapedOpen Try.prog) : BB.G fun b => W.heap[b]? := by
  obtain ⟨m, hm⟩ := Go.Proofs.cell_of_shapedOpen_int (g := 0) (zero := #[.int .i64 0]) (t := 3) hsh (of_decide_eq_true (by kernel_rfl)) (by kernel_rfl) rfl (by kernel_rfl) (by kernel_rfl) Try.underlying3
  have hm' : W.cell? ⟨0, 0, none⟩ = some (.int .i64 m) := hm
  unfold World.cell? at hm'
  show ∃ c T fr m, W.heap[0]? = some (.cells c T fr) ∧ c[0]? = some (.int .i64 m)
  cases h : W.heap[0]? with
  | none => simp [h] at hm'
  | some o =>
    cases o with
    | cells c T fr => exact ⟨c, T, fr, m, rfl, by simpa [h] using hm'⟩
    | _ => simp [h] at hm'
end Go.Vc
