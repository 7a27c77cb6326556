/- A part of the proof: lemmas and walks that the last text of the claim joins; no condition. -/
import Derived.Test.YthopfegpddkelaaGreatPlaceTextsTH
import Derived.Test.YthopfegpddkelaaGreatPlaceTextsTF
import Derived.Shelf.Vars
import Derived.Test.YthopfegpddkelaaGreatRows
set_option linter.unusedVariables false
set_option linter.unusedSimpArgs false
set_option maxHeartbeats 8000000
namespace Go.Vc
open Go.Proofs
set_option maxRecDepth 10000
set_option maxHeartbeats 4000000
instance shAdd (md bk lx fm hd : Int) (fo sk : Bool) (ins : List UInt8) (l : List NodeD) (k s : Int) (nm : List UInt8) (at_ : List AttrD) (d : List UInt8) (up : Int) (kids : List Int) :
  FnM BB 39 [.loc 0 0, .agg [.int .i64 k, .int .i64 s, .str nm, .rd attrTy at_, .str d, .int .i64 up, .rd intTy kids]] [(0, .box [.own 1, .nils, .nils, .int .i64 md, .int .i64 bk, .int .i64 lx, .int .i64 fm, .int .i64 hd, .bool fo, .bool sk, .str ins]), (1, .own nodeTy l)] (l.length ≤ 100000 ∧ at_.length ≤ 100000)
   (.int .i64 l.length) [(0, .box [.own 1, .nils, .nils, .int .i64 md, .int .i64 bk, .int .i64 lx, .int .i64 fm, .int .i64 hd, .bool fo, .bool sk, .str ins]), (1, .own nodeTy (addT l (k, s, nm, at_, d, up, kids)))] := by
 refine FnM.intro (N := 28) [0, 1, 3, 4] [(3, [0, 0, 0, 0, 1, 1, 1, 3, 0, 0, 3]), (1000003, [3])] 2 Tryz.call39 Tryz.func39 rfl rfl (by kernel_rfl) (fun hpre => ?_)
 obtain ⟨hp1, hp2⟩ := hpre
 repeat' ((conv => whnf);first|(with_reducible first|rfl|exact absTF|exact absFT)|exact True.intro|intro _|refine And.intro ?_ ?_|refine Fin.mk ?_|refine W1 rfl ?_ ?_|refine W2 rfl ?_ ?_|refine W3 rfl ?_ ?_|refine W4 ?_ ?_|refine W5 rfl ?_ ?_|refine W6 ?_ ?_|refine AppN.mk ?_|refine X1 (W1 rfl ?_ ?_)|refine X1 (W2 rfl ?_ ?_)|refine X2 (W7 rfl ?_ ?_)|refine X3 (W7 rfl ?_ ?_)|refine X4 (W7 rfl ?_ ?_)|refine X5 (W7 rfl ?_ ?_))
 all_goals (try (conv => whnf))
 all_goals (try first|exact obA|refine Ob.mk ?_)
 all_goals (first | (simp; done) | rfl | trace_state)
instance shCut (md bk lx fm hd : Int) (fo sk : Bool) (ins : List UInt8) (l : List NodeD) (kid : Int) : FnM BB 78 [.loc 0 0, .int .i64 kid] [(0, .box [.own 1, .nils, .nils, .int .i64 md, .int .i64 bk, .int .i64 lx, .int .i64 fm, .int .i64 hd, .bool fo, .bool sk, .str ins]), (1, .own nodeTy l)] (smallT l = true)
      (.tup []) [(0, .box [.own 1, .nils, .nils, .int .i64 md, .int .i64 bk, .int .i64 lx, .int .i64 fm, .int .i64 hd, .bool fo, .bool sk, .str ins]), (1, .own nodeTy (cutT l kid))] := by
  refine FnM.intro (N := 77) [0, 1, 4, 5, 6, 7, 14, 33, 38, 69] [] 2 Tryz.call78 Tryz.func78 rfl rfl (by kernel_rfl) (fun hpre => ?_)
  have H : placeT l kid ≥ 0 → (0 ≤ kid ∧ kid < l.length) ∧ (0 ≤ (nd l kid).up ∧ (nd l kid).up < l.length) ∧ placeT l kid < (nd l (nd l kid).up).kids.length ∧ (nd l (nd l kid).up).kids.length ≤ 1000 := by
    intro h
    obtain ⟨h1, h2, h3⟩ := place_nonneg h
    exact ⟨isT_iff.1 h1, isT_iff.1 h2, h3, (small_at hpre _ h2).2⟩
  by_cases h0 : placeT l kid ≥ 0
  · obtain ⟨f1, f2, f3, f4⟩ := H h0
    clear H
    obtain ⟨a, ha⟩ : ∃ a : Nat, placeT l kid = a := ⟨(placeT l kid).toNat, by omega⟩
    obtain ⟨u, hu⟩ : ∃ u : Int, (l.getD kid.toNat nodeTy.dflt).2.2.2.2.2.1 = u := ⟨_, rfl⟩
    obtain ⟨ks, hks⟩ : ∃ ks : List Int, (l.getD u.toNat nodeTy.dflt).2.2.2.2.2.2 = ks := ⟨_, rfl⟩
    have hA2 : cutA l kid = l.set u.toNat (setKids (l.getD u.toNat nodeTy.dflt) (delA ks a ks.length)) := by
      have f3' : placeT l kid < (ks.length : Int) := by rw [← hks, ← hu]; exact f3
      unfold cutA
      rw [if_pos h0, delA_end ks a (by omega), ha, Int.toNat_natCast, show ((a : Int) + 1).toNat = a + 1 by omega]
      subst hu; subst hks; rfl
    have f2 : 0 ≤ u ∧ u < l.length := by rw [← hu]; exact f2
    have f3 : placeT l kid < (ks.length : Int) := by rw [← hks, ← hu]; exact f3
    have f4 : ks.length ≤ 1000 := by rw [← hks, ← hu]; exact f4
    have hAi : ∀ i, isT (cutA l kid) i = isT l i := isT_len cutA_len
    have fk : isT l kid = true := isT_iff.2 f1
    repeat' ((conv => whnf);first|(with_reducible first|rfl|exact absTF|exact absFT)|exact True.intro|intro _|refine And.intro ?_ ?_|refine Fin.mk ?_|refine W1 rfl ?_ ?_|refine W2 rfl ?_ ?_|refine W3 rfl ?_ ?_|refine W4 ?_ ?_|refine W5 rfl ?_ ?_|refine W6 ?_ ?_|refine AppN.mk ?_|refine X1 (W1 rfl ?_ ?_)|refine X1 (W2 rfl ?_ ?_)|refine X2 (W7 rfl ?_ ?_)|refine X3 (W7 rfl ?_ ?_)|refine X4 (W7 rfl ?_ ?_)|refine X5 (W7 rfl ?_ ?_))
    all_goals (try (conv => whnf))
    all_goals (try first|exact obA|refine Ob.mk ?_)
    all_goals (try simp only [hu, hks])
    all_goals (try (exfalso; have h := of_decide_eq_false ‹decide (placeT l kid ≥ 0) = false›; exact h h0))
    all_goals (first | exact f1 | exact f2 | omega | skip)
    refine LoopStop.mk (α := Nat) (fun i => [(7, .int .i64 i), (6, .own 20)]) (fun i => [(20, .own intTy (delA ks a i))]) 30 (fun i => i ≤ ks.length) (fun i => ks.length - i) 0 (by simp) ?_ (fun i hi => ?_)
    · repeat' ((conv => whnf);first|(with_reducible first|rfl|exact absTF|exact absFT)|exact True.intro|intro _|refine And.intro ?_ ?_|refine Fin.mk ?_|refine W1 rfl ?_ ?_|refine W2 rfl ?_ ?_|refine W3 rfl ?_ ?_|refine W4 ?_ ?_|refine W5 rfl ?_ ?_|refine W6 ?_ ?_|refine AppN.mk ?_|refine X1 (W1 rfl ?_ ?_)|refine X1 (W2 rfl ?_ ?_)|refine X2 (W7 rfl ?_ ?_)|refine X3 (W7 rfl ?_ ?_)|refine X4 (W7 rfl ?_ ?_)|refine X5 (W7 rfl ?_ ?_))
      all_goals (try (conv => whnf))
      all_goals (try first|exact obA|refine Ob.mk ?_)
      all_goals (first | rfl | (simp [delA]; done) | trace_state)
    · have hl := delA_len ks a i
      have hst := delA_step ks a i
      repeat' ((conv => whnf);first|(with_reducible first|rfl|exact absTF|exact absFT)|exact True.intro|intro _|refine And.intro ?_ ?_|refine Fin.mk ?_|refine W1 rfl ?_ ?_|refine W2 rfl ?_ ?_|refine W3 rfl ?_ ?_|refine W4 ?_ ?_|refine W5 rfl ?_ ?_|refine W6 ?_ ?_|refine AppN.mk ?_|refine X1 (W1 rfl ?_ ?_)|refine X1 (W2 rfl ?_ ?_)|refine X2 (W7 rfl ?_ ?_)|refine X3 (W7 rfl ?_ ?_)|refine X4 (W7 rfl ?_ ?_)|refine X5 (W7 rfl ?_ ?_))
      all_goals (try (conv => whnf))
      all_goals (try first|exact obA|refine Ob.mk ?_)
      all_goals (try simp only [hu, hks, Int.toNat_natCast])
      all_goals (try (have b1 : (i : Int) < (ks.length : Int) := by (have h := of_decide_eq_true (show decide ((i : Int) < (List.length (l.getD u.toNat nodeTy.dflt).2.2.2.2.2.2 : Int)) = true from ‹_›); rw [hks] at h; exact h)))
      all_goals (try (have b1 : ¬ (i : Int) < (ks.length : Int) := by (have h := of_decide_eq_false (show decide ((i : Int) < (List.length (l.getD u.toNat nodeTy.dflt).2.2.2.2.2.2 : Int)) = false from ‹_›); rw [hks] at h; exact h)))
      all_goals (try (have hs := hst (by omega) (by omega)))
      all_goals (try (have e1 : i = a := by (have h : ((i : Int) != placeT l kid) = false := ‹_›; rw [bne_eq_false_iff_eq, ha] at h; omega)))
      all_goals (try (have e1 : ¬ i = a := by (have h : ((i : Int) != placeT l kid) = true := ‹_›; rw [bne_iff_ne, ha] at h; omega)))
      all_goals (try rw [if_pos e1] at hs)
      all_goals (try rw [if_neg e1] at hs)
      have f2' : u.toNat < l.length := by omega
      all_goals (first | exact f1 | exact f2 | exact f2' | omega | skip)
      · refine Rnd.mk ⟨i + 1, by omega, by omega, ?_⟩
        repeat' ((conv => whnf);first|(with_reducible first|rfl|exact absTF|exact absFT)|exact True.intro|intro _|refine And.intro ?_ ?_|refine Fin.mk ?_|refine W1 rfl ?_ ?_|refine W2 rfl ?_ ?_|refine W3 rfl ?_ ?_|refine W4 ?_ ?_|refine W5 rfl ?_ ?_|refine W6 ?_ ?_|refine AppN.mk ?_|refine X1 (W1 rfl ?_ ?_)|refine X1 (W2 rfl ?_ ?_)|refine X2 (W7 rfl ?_ ?_)|refine X3 (W7 rfl ?_ ?_)|refine X4 (W7 rfl ?_ ?_)|refine X5 (W7 rfl ?_ ?_))
        all_goals (try (conv => whnf))
        all_goals (try first|exact obA|refine Ob.mk ?_)
        all_goals (first | rfl | omega | (rw [hs]; done) | (rw [hs]; rfl) | trace_state)
      · refine Rnd.mk ⟨i + 1, by omega, by omega, ?_⟩
        repeat' ((conv => whnf);first|(with_reducible first|rfl|exact absTF|exact absFT)|exact True.intro|intro _|refine And.intro ?_ ?_|refine Fin.mk ?_|refine W1 rfl ?_ ?_|refine W2 rfl ?_ ?_|refine W3 rfl ?_ ?_|refine W4 ?_ ?_|refine W5 rfl ?_ ?_|refine W6 ?_ ?_|refine AppN.mk ?_|refine X1 (W1 rfl ?_ ?_)|refine X1 (W2 rfl ?_ ?_)|refine X2 (W7 rfl ?_ ?_)|refine X3 (W7 rfl ?_ ?_)|refine X4 (W7 rfl ?_ ?_)|refine X5 (W7 rfl ?_ ?_))
        all_goals (try (conv => whnf))
        all_goals (try first|exact obA|refine Ob.mk ?_)
        all_goals (first | rfl | omega | (rw [hs]; done) | (rw [hs]; rfl) | trace_state)
      all_goals (obtain rfl : i = ks.length := by omega)
      all_goals (try simp only [List.length_set])
      all_goals (first | exact f1 | (show Int.toNat _ < _; omega) | skip)
      all_goals (try (have hG : (isT (l.set u.toNat (setKids (l.getD u.toNat nodeTy.dflt) (delA ks a ks.length))) kid && kid != 0) = true := ‹_›; rw [isT_set, fk, Bool.true_and, bne_iff_ne] at hG; rw [cutT_on ⟨fk, hG⟩, hA2]; rfl))
      all_goals (try (have hG : (isT (l.set u.toNat (setKids (l.getD u.toNat nodeTy.dflt) (delA ks a ks.length))) kid && kid != 0) = false := ‹_›; rw [isT_set, fk, Bool.true_and, bne_eq_false_iff_eq] at hG; rw [cutT_off (fun q => q.2 hG), hA2]; rfl))
      all_goals trace_state
  · have hA : cutA l kid = l := by unfold cutA; rw [if_neg h0]
    have g1 : (isT l kid && kid != 0) = true → isT l kid = true ∧ kid ≠ 0 := fun h => by rw [Bool.and_eq_true, bne_iff_ne] at h; exact h
    have g0 : (isT l kid && kid != 0) = false → ¬ (isT l kid = true ∧ kid ≠ 0) := fun h q => by rw [q.1, Bool.true_and, bne_eq_false_iff_eq] at h; exact q.2 h
    repeat' ((conv => whnf);first|(with_reducible first|rfl|exact absTF|exact absFT)|exact True.intro|intro _|refine And.intro ?_ ?_|refine Fin.mk ?_|refine W1 rfl ?_ ?_|refine W2 rfl ?_ ?_|refine W3 rfl ?_ ?_|refine W4 ?_ ?_|refine W5 rfl ?_ ?_|refine W6 ?_ ?_|refine AppN.mk ?_|refine X1 (W1 rfl ?_ ?_)|refine X1 (W2 rfl ?_ ?_)|refine X2 (W7 rfl ?_ ?_)|refine X3 (W7 rfl ?_ ?_)|refine X4 (W7 rfl ?_ ?_)|refine X5 (W7 rfl ?_ ?_))
    all_goals (try (conv => whnf))
    all_goals (try first|exact obA|refine Ob.mk ?_)
    all_goals (try (exfalso; exact h0 (of_decide_eq_true ‹decide (placeT l kid ≥ 0) = true›)))
    all_goals (try (have q := g1 ‹_›; have q' := isT_iff.1 q.1))
    all_goals (try (have q := g0 ‹_›))
    all_goals (first | exact q' | (show Int.toNat _ < _; omega) | (rw [cutT_on q, hA]; rfl) | (rw [cutT_off q, hA]; done) | (rw [cutT_off q, hA]; rfl) | trace_state)
instance shPut (md bk lx fm hd : Int) (fo sk : Bool) (ins : List UInt8) (l : List NodeD) (up at_ kid : Int) : FnM BB 40 [.loc 0 0, .int .i64 up, .int .i64 at_, .int .i64 kid] [(0, .box [.own 1, .nils, .nils, .int .i64 md, .int .i64 bk, .int .i64 lx, .int .i64 fm, .int .i64 hd, .bool fo, .bool sk, .str ins]), (1, .own nodeTy l)] (smallT l = true)
      (.tup []) [(0, .box [.own 1, .nils, .nils, .int .i64 md, .int .i64 bk, .int .i64 lx, .int .i64 fm, .int .i64 hd, .bool fo, .bool sk, .str ins]), (1, .own nodeTy (putT l up at_ kid))] := by
  refine FnM.intro (N := 69) [0, 1, 2, 3, 8, 34] [(3, [0, 0, 0, 1, 0, 0, 0, 0, 1, 1, 1, 0, 1, 3, 3, 3])] 2 Tryz.call40 Tryz.func40 rfl rfl (by kernel_rfl) (fun hpre => ?_)
  have hsm := cutT_sm (kid := kid) (smB_of hpre)
  have hll := small_len hpre
  have hu : (!isT l up || !isT l kid || kid == 0 || holdsT l kid up) = false → (0 ≤ up ∧ up < (cutT l kid).length) ∧ (0 ≤ kid ∧ kid < (cutT l kid).length) ∧ ((cutT l kid).getD up.toNat nodeTy.dflt).kids.length ≤ 1000 := by
    intro h
    simp only [Bool.or_eq_false_iff, Bool.not_eq_false'] at h
    have h1 := isT_iff.1 h.1.1.1
    have h2 := isT_iff.1 h.1.1.2
    rw [cutT_len]
    exact ⟨h1, h2, (hsm.2 up.toNat (by rw [cutT_len]; omega)).2⟩
  have hp1 : (!isT l up || !isT l kid || kid == 0 || holdsT l kid up) = true → putT l up at_ kid = l := fun h => by rw [putT, if_pos h]
  repeat' ((conv => whnf);first|(with_reducible first|rfl|exact absTF|exact absFT)|exact True.intro|intro _|refine And.intro ?_ ?_|refine Fin.mk ?_|refine W1 rfl ?_ ?_|refine W2 rfl ?_ ?_|refine W3 rfl ?_ ?_|refine W4 ?_ ?_|refine W5 rfl ?_ ?_|refine W6 ?_ ?_|refine AppN.mk ?_|refine X1 (W1 rfl ?_ ?_)|refine X1 (W2 rfl ?_ ?_)|refine X2 (W7 rfl ?_ ?_)|refine X3 (W7 rfl ?_ ?_)|refine X4 (W7 rfl ?_ ?_)|refine X5 (W7 rfl ?_ ?_))
  all_goals (try (conv => whnf))
  all_goals (try first|exact obA|refine Ob.mk ?_)
  all_goals (try (have q := hu ‹(!isT l up || !isT l kid || kid == 0 || holdsT l kid up) = false›; obtain ⟨q1, q2, q3⟩ := q))
  all_goals (first | (rw [hp1 ‹_›]; done) | exact q1 | exact q2 | (show Int.toNat _ < _; omega) | skip)
  · rw [mm _ _ (by omega)]
    refine ⟨by omega, by omega, Nat.le_trans q3 (by omega)⟩
  · rw [List.length_set]; exact q2
  · rw [List.length_set]; omega
  · rw [putT, if_neg (by rw [show (!isT l up || !isT l kid || kid == 0 || holdsT l kid up) = false from ‹_›]; decide), mm _ _ (by omega)]
    rfl
  all_goals trace_state
end Go.Vc

namespace Go.Vc
open Go.Proofs
set_option maxRecDepth 10000
set_option maxHeartbeats 4000000
instance rTabled (t : List NodeD) (op : List Int) (at_ md bk lx fm hd : Int) (fo sk : Bool) (ins : List UInt8) :
  FnM BB 106 [.loc 0 0, .int .i64 at_] [(0, .box [.own 1, .own 2, .nils, .int .i64 md, .int .i64 bk, .int .i64 lx, .int .i64 fm, .int .i64 hd, .bool fo, .bool sk, .str ins]), (1, .own nodeTy t), (2, .own intTy op)] (at_ ≤ 1)
   (.bool false) [(0, .box [.own 1, .own 2, .nils, .int .i64 md, .int .i64 bk, .int .i64 lx, .int .i64 fm, .int .i64 hd, .bool fo, .bool sk, .str ins]), (1, .own nodeTy t), (2, .own intTy op)] := by
 refine FnM.intro (N := 23) [0, 1, 4, 5, 8, 22] [(4, [0, 0, 0, 1, 0, 0, 0, 1, 0, 1, 1, 3])] 3 Tryz.call106 Tryz.func106 rfl rfl (by kernel_rfl) (fun hpre => ?_)
 repeat' ((conv => whnf);first|(with_reducible first|rfl|exact absTF|exact absFT)|exact True.intro|intro _|refine And.intro ?_ ?_|refine Fin.mk ?_|refine W1 rfl ?_ ?_|refine W2 rfl ?_ ?_|refine W3 rfl ?_ ?_|refine W4 ?_ ?_|refine W5 rfl ?_ ?_|refine W6 ?_ ?_|refine AppN.mk ?_|refine X1 (W1 rfl ?_ ?_)|refine X1 (W2 rfl ?_ ?_)|refine X2 (W7 rfl ?_ ?_)|refine X3 (W7 rfl ?_ ?_)|refine X4 (W7 rfl ?_ ?_)|refine X5 (W7 rfl ?_ ?_))
 all_goals (try (conv => whnf))
 all_goals (try first|exact obA|refine Ob.mk ?_)
 refine LoopStop.unroll 1 ?_
 repeat' ((conv => whnf);first|(with_reducible first|rfl|exact absTF|exact absFT)|exact True.intro|(intro hq; (try simp only [ZA,ZB,ZC,ZD,ZE,ZF,ZG,ZH,ZI,ZJ,ZK,ZL,ZM,ZN,ZO,Bool.and_eq_false_iff,Bool.or_eq_false_iff,ge_iff_le,gt_iff_lt,Int.toNat_natCast,UInt8.ofNat_toNat,cast_eq] at hq); (try (exfalso; first | omega | exact hq trivial | exact absurd hq (by decide))))|refine And.intro ?_ ?_|refine Fin.mk ?_|refine W1 rfl ?_ ?_|refine W2 rfl ?_ ?_|refine W3 rfl ?_ ?_|refine W4 ?_ ?_|refine W5 rfl ?_ ?_|refine W6 ?_ ?_|refine AppN.mk ?_|refine X1 (W1 rfl ?_ ?_)|refine X1 (W2 rfl ?_ ?_)|refine X2 (W7 rfl ?_ ?_)|refine X3 (W7 rfl ?_ ?_)|refine X4 (W7 rfl ?_ ?_)|refine X5 (W7 rfl ?_ ?_))
 all_goals (try (conv => whnf))
 all_goals (try first|exact obA|refine Ob.mk ?_)
 all_goals (first | rfl | trace_state)
instance rMode (t : List NodeD) (op : List Int) (nm : List UInt8) (at_ md bk lx fm hd : Int) (fo sk : Bool) (ins : List UInt8) :
    FnM BB 80 [.loc 0 0, .str nm, .int .i64 at_, .bool true] [(0, .box [.own 1, .own 2, .nils, .int .i64 md, .int .i64 bk, .int .i64 lx, .int .i64 fm, .int .i64 hd, .bool fo, .bool sk, .str ins]), (1, .own nodeTy t), (2, .own intTy op)] (at_ ≤ 1)
      (.int .i64 (modeL nm hd)) [(0, .box [.own 1, .own 2, .nils, .int .i64 md, .int .i64 bk, .int .i64 lx, .int .i64 fm, .int .i64 hd, .bool fo, .bool sk, .str ins]), (1, .own nodeTy t), (2, .own intTy op)] := by
  refine FnM.intro (N := 71) [0, 1, 2, 3, 8, 9, 10, 11, 17, 25, 40, 42, 52, 58, 67, 69, 70] [] 3 Tryz.call80 Tryz.func80 rfl rfl (by kernel_rfl) (fun hpre => ?_)
  repeat' ((conv => whnf);first|(with_reducible first|rfl|exact absTF|exact absFT)|exact True.intro|intro _|refine And.intro ?_ ?_|refine Fin.mk ?_|refine W1 rfl ?_ ?_|refine W2 rfl ?_ ?_|refine W3 rfl ?_ ?_|refine W4 ?_ ?_|refine W5 rfl ?_ ?_|refine W6 ?_ ?_|refine AppN.mk ?_|refine X1 (W1 rfl ?_ ?_)|refine X1 (W2 rfl ?_ ?_)|refine X2 (W7 rfl ?_ ?_)|refine X3 (W7 rfl ?_ ?_)|refine X4 (W7 rfl ?_ ?_)|refine X5 (W7 rfl ?_ ?_))
  all_goals (try (conv => whnf))
  all_goals (try first|exact obA|refine Ob.mk ?_)
  refine LoopStop.unroll 9 ?_
  repeat' ((conv => whnf);first|(with_reducible first|rfl|exact absTF|exact absFT)|exact True.intro|intro _|refine And.intro ?_ ?_|refine Fin.mk ?_|refine W1 rfl ?_ ?_|refine W2 rfl ?_ ?_|refine W3 rfl ?_ ?_|refine W4 ?_ ?_|refine W5 rfl ?_ ?_|refine W6 ?_ ?_|refine AppN.mk ?_|refine X1 (W1 rfl ?_ ?_)|refine X1 (W2 rfl ?_ ?_)|refine X2 (W7 rfl ?_ ?_)|refine X3 (W7 rfl ?_ ?_)|refine X4 (W7 rfl ?_ ?_)|refine X5 (W7 rfl ?_ ?_))
  all_goals (try (conv => whnf))
  all_goals (try first|exact obA|refine Ob.mk ?_)
  all_goals (try (exact ⟨by decide, by decide⟩))
  all_goals (try exact hpre)
  all_goals (try (exfalso; revert ‹decide _ = _›; decide))
  all_goals (try (have e := eq_of_beq (show (([116, 114] : List UInt8) == nm) = true from by assumption); subst e; rfl))
  all_goals (try (have e := eq_of_beq (show (([116, 98, 111, 100, 121] : List UInt8) == nm) = true from by assumption); subst e; rfl))
  all_goals (try (have e := eq_of_beq (show (([116, 102, 111, 111, 116] : List UInt8) == nm) = true from by assumption); subst e; rfl))
  all_goals (try (have e := eq_of_beq (show (([116, 104, 101, 97, 100] : List UInt8) == nm) = true from by assumption); subst e; rfl))
  all_goals (try (have e := eq_of_beq (show (([99, 97, 112, 116, 105, 111, 110] : List UInt8) == nm) = true from by assumption); subst e; rfl))
  all_goals (try (have e := eq_of_beq (show (([99, 111, 108, 103, 114, 111, 117, 112] : List UInt8) == nm) = true from by assumption); subst e; rfl))
  all_goals (try (have e := eq_of_beq (show (([116, 97, 98, 108, 101] : List UInt8) == nm) = true from by assumption); subst e; rfl))
  all_goals (try (have e := eq_of_beq (show (([98, 111, 100, 121] : List UInt8) == nm) = true from by assumption); subst e; rfl))
  all_goals (try (exfalso; exact absurd ‹(true && false) = true› (by decide)))
  all_goals (try (exfalso; have h := ‹((nm == [116, 100] || nm == [116, 104]) && !true) = true›; rw [Bool.not_true, Bool.and_false] at h; cases h))
  all_goals (try (exfalso; have h := ‹(nm == [104, 101, 97, 100] && !true) = true›; rw [Bool.not_true, Bool.and_false] at h; cases h))
  all_goals (try (have e := eq_of_beq ‹(nm == [115, 101, 108, 101, 99, 116]) = true›; subst e; rfl))
  all_goals (try (have h := ‹(nm == [104, 116, 109, 108] && hd == 0) = true›; rw [Bool.and_eq_true] at h; have e := eq_of_beq h.1; have e2 := eq_of_beq h.2; subst e; subst e2; rfl))
  all_goals (try (have e := eq_of_beq ‹(nm == [104, 116, 109, 108]) = true›; subst e; have h := ‹(([104, 116, 109, 108] : List UInt8) == [104, 116, 109, 108] && hd == 0) = false›; have e2 : (hd == 0) = false := by simpa using h
                  show (4 : Int) = bif (bif hd == 0 then ((2 : Int), true) else (4, true)).2 then (bif hd == 0 then ((2 : Int), true) else (4, true)).1 else 5
                  rw [e2]; rfl))
  all_goals (have ne : ∀ a : List UInt8, (a == nm) = false → (nm == a) = false := fun a h => by rw [beq_eq_false_iff_ne] at h ⊢; exact fun e => h e.symm)
  all_goals (have e1 := ne [116, 114] (by assumption))
  all_goals (have e2 := ne [116, 98, 111, 100, 121] (by assumption))
  all_goals (have e3 := ne [116, 102, 111, 111, 116] (by assumption))
  all_goals (have e4 := ne [116, 104, 101, 97, 100] (by assumption))
  all_goals (have e5 := ne [99, 97, 112, 116, 105, 111, 110] (by assumption))
  all_goals (have e6 := ne [99, 111, 108, 103, 114, 111, 117, 112] (by assumption))
  all_goals (have e7 := ne [116, 97, 98, 108, 101] (by assumption))
  all_goals (have e8 := ne [98, 111, 100, 121] (by assumption))
  all_goals (have e9 : (nm == [115, 101, 108, 101, 99, 116]) = false := by assumption)
  all_goals (have e10 : (nm == [104, 116, 109, 108]) = false := by assumption)
  all_goals (unfold modeL toldL wSelect wTd wTh wTr wTbody wTfoot wThead wCaption wColgroup wTable wHead wBody wHtml)
  all_goals (rw [e1, e2, e3, e4, e5, e6, e7, e8, e9, e10])
  all_goals (cases (nm == [116, 100] || nm == [116, 104]) <;> cases nm == [104, 101, 97, 100] <;> rfl)
end Go.Vc

namespace Go.Vc
open Go.Proofs
set_option maxRecDepth 10000
set_option maxHeartbeats 4000000
theorem modeL_nn (ins : List UInt8) (hd : Int) : 0 ≤ modeL ins hd := by
 unfold modeL toldL
 cases ins == wSelect <;> cases ins == wTd || ins == wTh <;> cases ins == wTr <;> cases ins == wTbody || (ins == wTfoot || ins == wThead) <;> cases ins == wCaption <;> cases ins == wColgroup <;> cases ins == wTable <;> cases ins == wHead <;> cases ins == wBody <;> cases ins == wHtml <;> cases hd == 0 <;> decide
instance rMode2 (t : List NodeD) (op : List Int) (nm : List UInt8) (at_ md bk lx fm hd : Int) (fo sk last : Bool) (ins : List UInt8) :
  FnM BB 80 [.loc 0 0, .str nm, .int .i64 at_, .bool last] [(0, .box [.own 1, .own 2, .nils, .int .i64 md, .int .i64 bk, .int .i64 lx, .int .i64 fm, .int .i64 hd, .bool fo, .bool sk, .str ins]), (1, .own nodeTy t), (2, .own intTy op)] (at_ ≤ 1 ∧ last = true)
   (.int .i64 (modeL nm hd)) [(0, .box [.own 1, .own 2, .nils, .int .i64 md, .int .i64 bk, .int .i64 lx, .int .i64 fm, .int .i64 hd, .bool fo, .bool sk, .str ins]), (1, .own nodeTy t), (2, .own intTy op)] :=
 ⟨Tryz.call80, fun h => by
  have h2 := h.2
  subst h2
  exact (rMode t op nm at_ md bk lx fm hd fo sk ins).ok h.1⟩
instance rReset (t : List NodeD) (x : Int) (md bk lx fm hd : Int) (fo sk : Bool) (ins : List UInt8) :
  FnM BB 41 [.loc 0 0]
   [(0, .box [.own 1, .own 2, .nils, .int .i64 md, .int .i64 bk, .int .i64 lx, .int .i64 fm, .int .i64 hd, .bool fo, .bool sk, .str ins]), (1, .own nodeTy t), (2, .own intTy [x])] ((0 ≤ x ∧ x < t.length) ∧ ins ≠ [])
   (.tup [])
   [(0, .box [.own 1, .own 2, .nils, .int .i64 (modeL ins hd), .int .i64 bk, .int .i64 lx, .int .i64 fm, .int .i64 hd, .bool fo, .bool sk, .str ins]), (1, .own nodeTy t), (2, .own intTy [x])] := by
 refine FnM.intro (N := 63) [0, 2, 3, 4, 5, 16, 42, 50, 58] [(4, [0, 0, 0, 0, 0, 0, 0, 0, 0, 0, 0, 0, 0, 0, 6, 6])] 3 Tryz.call41 Tryz.func41 rfl rfl (by kernel_rfl) (fun hpre => ?_)
 obtain ⟨hp1, hp2⟩ := hpre
 have hne : (ins == []) = false := beq_eq_false_iff_ne.2 hp2
 have hm := modeL_nn ins hd
 repeat' ((conv => whnf);first|(with_reducible first|rfl|exact absTF|exact absFT)|exact True.intro|intro _|refine And.intro ?_ ?_|refine Fin.mk ?_|refine W1 rfl ?_ ?_|refine W2 rfl ?_ ?_|refine W3 rfl ?_ ?_|refine W4 ?_ ?_|refine W5 rfl ?_ ?_|refine W6 ?_ ?_|refine AppN.mk ?_|refine X1 (W1 rfl ?_ ?_)|refine X1 (W2 rfl ?_ ?_)|refine X2 (W7 rfl ?_ ?_)|refine X3 (W7 rfl ?_ ?_)|refine X4 (W7 rfl ?_ ?_)|refine X5 (W7 rfl ?_ ?_))
 all_goals (try (conv => whnf))
 all_goals (try first|exact obA|refine Ob.mk ?_)
 refine LoopStop.unroll 1 ?_
 have hlast : (((([x] : List Int).length : Nat) : Int) - 1 == 0 && !ins == []) = true := by rw [hne]; rfl
 repeat' ((conv => whnf);first|(with_reducible first|rfl|exact absTF|exact absFT)|exact True.intro|intro _|refine And.intro ?_ ?_|refine Fin.mk ?_|refine W1 rfl ?_ ?_|refine W2 rfl ?_ ?_|refine W3 rfl ?_ ?_|refine W4 ?_ ?_|refine W5 rfl ?_ ?_|refine W6 ?_ ?_|refine AppN.mk ?_|refine X1 (W1 rfl ?_ ?_)|refine X1 (W2 rfl ?_ ?_)|refine X2 (W7 rfl ?_ ?_)|refine X3 (W7 rfl ?_ ?_)|refine X4 (W7 rfl ?_ ?_)|refine X5 (W7 rfl ?_ ?_))
 all_goals (try (conv => whnf))
 all_goals (try first|exact obA|refine Ob.mk ?_)
 all_goals (try (exact hp1))
 all_goals (try (exact ⟨by decide, hlast⟩))
 all_goals (try (exact ⟨by decide, by decide⟩))
 all_goals (try (exfalso; have h : (((([x] : List Int).length : Nat) : Int) - 1 == 0 && !ins == []) = false := ‹_›; rw [hlast] at h; cases h))
 all_goals (try (exfalso; have h : decide (modeL ins hd ≥ 0) = false := ‹_›; rw [decide_eq_true hm] at h; cases h))
 all_goals (try (exfalso; have h : decide (((([x] : List Int).length : Nat) : Int) - 1 ≥ 0) = false := ‹_›; revert h; decide))
 all_goals (try (exfalso; exact absurd ‹((0 : Int) != 0) = true› (by decide)))
 all_goals (try (exact ⟨by show (((1 : Nat) : Int)) - 1 ≤ 1; decide, hlast⟩))
 all_goals (try (exfalso; exact absurd ‹decide (((([x] : List Int).length : Nat) : Int) - 1 ≥ 0) = false› (by show ¬ decide ((((1 : Nat) : Int)) - 1 ≥ 0) = false; decide)))
 all_goals (try rfl)
instance shAddn (md bk lx fm hd : Int) (fo sk : Bool) (ins : List UInt8) (l : List NodeD) (k s : Int) (nm : List UInt8) (d : List UInt8) (up : Int) :
  FnM BB 39 [.loc 0 0, .agg [.int .i64 k, .int .i64 s, .str nm, .nils, .str d, .int .i64 up, .nils]] [(0, .box [.own 1, .nils, .nils, .int .i64 md, .int .i64 bk, .int .i64 lx, .int .i64 fm, .int .i64 hd, .bool fo, .bool sk, .str ins]), (1, .own nodeTy l)] (l.length ≤ 100000 ∧ ([] : List AttrD).length ≤ 100000)
   (.int .i64 l.length) [(0, .box [.own 1, .nils, .nils, .int .i64 md, .int .i64 bk, .int .i64 lx, .int .i64 fm, .int .i64 hd, .bool fo, .bool sk, .str ins]), (1, .own nodeTy (addT l (k, s, nm, [], d, up, [])))] :=
 FnM.wk (shAdd md bk lx fm hd fo sk ins l k s nm [] d up []) fun r β vs h => by
  refine ⟨h.1, fun i sv v h1 h2 => ?_⟩
  match i, h1 with
  | 0, h1 => cases h1; exact h.2 0 _ v rfl h2
  | 1, h1 =>
   cases h1
   obtain ⟨cs, rfl, hc⟩ := (h.2 1 _ v rfl h2).aggL_inv
   refine .aggL ⟨hc.1, fun j sv u q1 q2 => ?_⟩
   match j, q1 with
   | 0, q1 => cases q1; exact hc.2 0 _ u rfl q2
   | 1, q1 => cases q1; exact hc.2 1 _ u rfl q2
   | 2, q1 => cases q1; exact hc.2 2 _ u rfl q2
   | 3, q1 => cases q1; exact nils_rd (hc.2 3 _ u rfl q2)
   | 4, q1 => cases q1; exact hc.2 4 _ u rfl q2
   | 5, q1 => cases q1; exact hc.2 5 _ u rfl q2
   | 6, q1 => cases q1; exact nils_rd (hc.2 6 _ u rfl q2)
instance rNew17 (ins : List UInt8) :
  FnM BB 9 [.str ins] [] (ins ≠ [] ∧ ins.length ≤ 60) (.loc 0 0)
   [(0, .box [.own 1, .own 2, .nils, .int .i64 (modeL ins 0), .int .i64 0, .int .i64 (W.kLexed ins), .int .i64 0, .int .i64 0, .bool false, .bool false, .str ins]), (1, .own nodeTy newT), (2, .own intTy [1])] := by
 refine FnM.intro (N := 34) [0, 2, 3, 4, 10] [] 3 Tryz.call9 Tryz.func9 rfl rfl (by kernel_rfl) (fun hpre => ?_)
 obtain ⟨hp1, hp2⟩ := hpre
 repeat' ((conv => whnf);first|(with_reducible first|rfl|exact absTF|exact absFT)|exact True.intro|intro _|refine And.intro ?_ ?_|refine Fin.mk ?_|refine W1 rfl ?_ ?_|refine W2 rfl ?_ ?_|refine W3 rfl ?_ ?_|refine W4 ?_ ?_|refine W5 rfl ?_ ?_|refine W6 ?_ ?_|refine AppN.mk ?_|refine X1 (W1 rfl ?_ ?_)|refine X1 (W2 rfl ?_ ?_)|refine X2 (W7 rfl ?_ ?_)|refine X3 (W7 rfl ?_ ?_)|refine X4 (W7 rfl ?_ ?_)|refine X5 (W7 rfl ?_ ?_))
 all_goals (try (conv => whnf))
 all_goals (try first|exact obA|refine Ob.mk ?_)
 all_goals (try (exfalso; exact hp1 (by simpa using ‹(!ins == []) = false›)))
 all_goals (try (exact newT_sm))
 all_goals (try (exact ⟨⟨by decide, by decide⟩, hp1⟩))
 all_goals (try rfl)
end Go.Vc

namespace Go.Vc
open Go.Proofs
set_option maxRecDepth 10000
set_option maxHeartbeats 4000000
instance s59m (t : List NodeD) (l : List Int) (nm : List UInt8) : FnM BB 64 [.agg [.rd nodeTy t], .rd intTy l, .str nm] [] (shortN t ∧ nm.length ≤ 100000 ∧ l.length ≤ 100000) (.own 0) [(0, .own intTy (l.take (cutR (fun x => !isE t x nm) l l.length)))] := by
 refine FnM.intro (N := 10) [0, 1, 2, 3, 5, 6] [] 0 Tryz.call64 Tryz.func64 rfl rfl (by kernel_rfl) (fun hpre => ?_)
 all_goals exact vcA
instance s57m (t : List NodeD) (l : List Int) (nm : List UInt8) : FnM BB 62 [.agg [.rd nodeTy t], .rd intTy l, .str nm] [] (shortN t ∧ nm.length ≤ 100000 ∧ l.length ≤ 100000) (.own 0) [(0, .own intTy (l.take (cutR (implN t nm) l l.length)))] := by
 refine FnM.intro (N := 10) [0, 1, 2, 3, 5, 6] [] 0 Tryz.call62 Tryz.func62 rfl rfl (by kernel_rfl) (fun hpre => ?_)
 all_goals exact vcA
instance s55m (t : List NodeD) (l : List Int) (nm : List UInt8) : FnM BB 60 [.agg [.rd nodeTy t], .rd intTy l, .str nm] [] (shortN t ∧ nm.length ≤ 100000 ∧ l.length ≤ 100000) (.own 0) [(0, .own intTy (l.take (popR (fun x => isE t x nm) l l.length)))] := by
 refine FnM.intro (N := 11) [0, 1, 2, 3, 5, 6, 7] [] 0 Tryz.call60 Tryz.func60 rfl rfl (by kernel_rfl) (fun hpre => ?_)
 all_goals exact vcA
instance s56m (t : List NodeD) (l : List Int) (nm : List UInt8) : FnM BB 61 [.agg [.rd nodeTy t], .rd intTy l, .str nm] [] (nm.length ≤ 100000 ∧ l.length ≤ 100000) (.own 0) [(0, .own intTy (l.take (popR (fun x => isE t x nm) l l.length)))] := by
 refine FnM.intro (N := 29) [0, 1, 2, 3, 6, 7, 10, 25] [] 0 Tryz.call61 Tryz.func61 rfl rfl (by kernel_rfl) (fun hpre => ?_)
 repeat' ((conv => whnf);first|(with_reducible first|rfl|exact absTF|exact absFT)|exact True.intro|intro _|refine And.intro ?_ ?_|refine Fin.mk ?_|refine W1 rfl ?_ ?_|refine W2 rfl ?_ ?_|refine W3 rfl ?_ ?_|refine W4 ?_ ?_|refine W5 rfl ?_ ?_|refine W6 ?_ ?_|refine AppN.mk ?_|refine X1 (W1 rfl ?_ ?_)|refine X1 (W2 rfl ?_ ?_)|refine X2 (W7 rfl ?_ ?_)|refine X3 (W7 rfl ?_ ?_)|refine X4 (W7 rfl ?_ ?_)|refine X5 (W7 rfl ?_ ?_))
 all_goals (try (conv => whnf))
 all_goals (try first|exact obA|refine Ob.mk ?_)
 refine LoopStop.mk (α := Nat) (fun n => [(1, .rd intTy (l.take n))]) (fun _ => []) 20 (fun n => n ≤ l.length ∧ popR (fun x => isE t x nm) l l.length = popR (fun x => isE t x nm) l n) (fun n => n) l.length (by simp) ?_ (fun n hC => ?_)
 ·repeat' ((conv => whnf);first|(with_reducible first|rfl|exact absTF|exact absFT)|exact True.intro|intro _|refine And.intro ?_ ?_|refine Fin.mk ?_|refine W1 rfl ?_ ?_|refine W2 rfl ?_ ?_|refine W3 rfl ?_ ?_|refine W4 ?_ ?_|refine W5 rfl ?_ ?_|refine W6 ?_ ?_|refine AppN.mk ?_|refine X1 (W1 rfl ?_ ?_)|refine X1 (W2 rfl ?_ ?_)|refine X2 (W7 rfl ?_ ?_)|refine X3 (W7 rfl ?_ ?_)|refine X4 (W7 rfl ?_ ?_)|refine X5 (W7 rfl ?_ ?_))
  all_goals (try (conv => whnf))
  all_goals (try first|exact obA|refine Ob.mk ?_)
  all_goals (first | rfl | (rw [List.take_of_length_le (Nat.le_refl _)]; done))
 ·obtain ⟨hn, hC⟩ := hC
  have e0 := len_take hn
  have e1 : ((n : Int) - 1).toNat = n - 1 := by omega
  have e2 : 1 < n → (l.take n).getD (n - 1) intTy.dflt = l.getD (n - 1) 0 := fun h => take_getD (by omega)
  repeat' ((conv => whnf);first|(with_reducible first|rfl|exact absTF|exact absFT)|exact True.intro|intro _|refine And.intro ?_ ?_|refine Fin.mk ?_|refine W1 rfl ?_ ?_|refine W2 rfl ?_ ?_|refine W3 rfl ?_ ?_|refine W4 ?_ ?_|refine W5 rfl ?_ ?_|refine W6 ?_ ?_|refine AppN.mk ?_|refine X1 (W1 rfl ?_ ?_)|refine X1 (W2 rfl ?_ ?_)|refine X2 (W7 rfl ?_ ?_)|refine X3 (W7 rfl ?_ ?_)|refine X4 (W7 rfl ?_ ?_)|refine X5 (W7 rfl ?_ ?_))
  all_goals (try (conv => whnf))
  all_goals (try rw [e0] at *)
  all_goals (try rw [e1] at *)
  all_goals (try rw [take_pred] at *)
  all_goals (try first|exact obA|refine Ob.mk ?_)
  ·rename_i h
   have h1 : 1 < n := by have := of_decide_eq_true ‹decide ((n : Int) > 1) = true›; omega
   rw [e2 h1] at h
   rw [hC.trans (popR_hit h1 h)]; rfl
  ·rename_i h
   have h1 : 1 < n := by have := of_decide_eq_true ‹decide ((n : Int) > 1) = true›; omega
   rw [e2 h1] at h
   refine Rnd.mk ⟨n - 1, ⟨by omega, hC.trans (popR_go h1 h)⟩, by omega, ?_, ?_, ?_⟩
   all_goals exact vcA
  ·have h1 : ¬ 1 < n := by have := of_decide_eq_false ‹decide ((n : Int) > 1) = false›; omega
   rw [hC.trans (popR_one h1)]; rfl
instance s60m (t : List NodeD) (l : List Int) (nm : List UInt8) : FnM BB 65 [.agg [.rd nodeTy t], .rd intTy l, .str nm] [] (nm.length ≤ 100000 ∧ l.length ≤ 100000) (.own 0) [(0, .own intTy (l.take (cutR (fun x => !isE t x nm) l l.length)))] := by
 refine FnM.intro (N := 30) [0, 1, 2, 3, 6, 21] [(1, [0, 1, 1, 1, 1, 1, 1, 1, 1, 1, 1, 1, 3, 3, 3])] 0 Tryz.call65 Tryz.func65 rfl rfl (by kernel_rfl) (fun hpre => ?_)
 repeat' ((conv => whnf);first|(with_reducible first|rfl|exact absTF|exact absFT)|exact True.intro|intro _|refine And.intro ?_ ?_|refine Fin.mk ?_|refine W1 rfl ?_ ?_|refine W2 rfl ?_ ?_|refine W3 rfl ?_ ?_|refine W4 ?_ ?_|refine W5 rfl ?_ ?_|refine W6 ?_ ?_|refine AppN.mk ?_|refine X1 (W1 rfl ?_ ?_)|refine X1 (W2 rfl ?_ ?_)|refine X2 (W7 rfl ?_ ?_)|refine X3 (W7 rfl ?_ ?_)|refine X4 (W7 rfl ?_ ?_)|refine X5 (W7 rfl ?_ ?_))
 all_goals (try (conv => whnf))
 all_goals (try first|exact obA|refine Ob.mk ?_)
 refine LoopStop.mk (α := Nat) (fun n => [(1, .rd intTy (l.take n))]) (fun _ => []) 20 (fun n => n ≤ l.length ∧ cutR (fun x => !isE t x nm) l l.length = cutR (fun x => !isE t x nm) l n) (fun n => n) l.length (by simp) ?_ (fun n hC => ?_)
 ·repeat' ((conv => whnf);first|(with_reducible first|rfl|exact absTF|exact absFT)|exact True.intro|intro _|refine And.intro ?_ ?_|refine Fin.mk ?_|refine W1 rfl ?_ ?_|refine W2 rfl ?_ ?_|refine W3 rfl ?_ ?_|refine W4 ?_ ?_|refine W5 rfl ?_ ?_|refine W6 ?_ ?_|refine AppN.mk ?_|refine X1 (W1 rfl ?_ ?_)|refine X1 (W2 rfl ?_ ?_)|refine X2 (W7 rfl ?_ ?_)|refine X3 (W7 rfl ?_ ?_)|refine X4 (W7 rfl ?_ ?_)|refine X5 (W7 rfl ?_ ?_))
  all_goals (try (conv => whnf))
  all_goals (try first|exact obA|refine Ob.mk ?_)
  all_goals (first | rfl | (rw [List.take_of_length_le (Nat.le_refl _)]; done))
 ·obtain ⟨hn, hC⟩ := hC
  have e0 := len_take hn
  have e1 : ((n : Int) - 1).toNat = n - 1 := by omega
  have e2 : 1 < n → (l.take n).getD (n - 1) intTy.dflt = l.getD (n - 1) 0 := fun h => take_getD (by omega)
  repeat' ((conv => whnf);first|(with_reducible first|rfl|exact absTF|exact absFT)|exact True.intro|intro _|refine And.intro ?_ ?_|refine Fin.mk ?_|refine W1 rfl ?_ ?_|refine W2 rfl ?_ ?_|refine W3 rfl ?_ ?_|refine W4 ?_ ?_|refine W5 rfl ?_ ?_|refine W6 ?_ ?_|refine AppN.mk ?_|refine X1 (W1 rfl ?_ ?_)|refine X1 (W2 rfl ?_ ?_)|refine X2 (W7 rfl ?_ ?_)|refine X3 (W7 rfl ?_ ?_)|refine X4 (W7 rfl ?_ ?_)|refine X5 (W7 rfl ?_ ?_))
  all_goals (try (conv => whnf))
  all_goals (try rw [e0] at *)
  all_goals (try rw [e1] at *)
  all_goals (try rw [take_pred] at *)
  all_goals (try first|exact obA|refine Ob.mk ?_)
  ·rename_i h hz
   have h1 : 1 < n := by have := of_decide_eq_true (Bool.and_eq_true_iff.1 h).1; omega
   have h2 := (Bool.and_eq_true_iff.1 h).2
   rw [e2 h1] at h2
   refine Rnd.mk ⟨n - 1, ⟨by omega, hC.trans (cutR_go h1 h2)⟩, by omega, ?_, ?_, ?_⟩
   all_goals exact vcA
  ·rename_i h
   by_cases h1 : 1 < n
   ·rw [decide_eq_true (by omega), Bool.true_and, e2 h1] at h
    rw [hC.trans (cutR_stop h1 h)]; rfl
   ·rw [hC.trans (cutR_one h1)]; rfl
instance s58m (t : List NodeD) (l : List Int) (nm : List UInt8) : FnM BB 63 [.agg [.rd nodeTy t], .rd intTy l, .str nm] [] (shortN t ∧ nm.length ≤ 100000 ∧ l.length ≤ 100000) (.own 0) [(0, .own intTy (l.take (cutR (implN t nm) l l.length)))] := by
 refine FnM.intro (N := 44) [0, 1, 2, 3, 6, 7, 10, 35] [(2, [0, 0, 0, 0, 0, 0, 0, 6, 6, 6])] 0 Tryz.call63 Tryz.func63 rfl rfl (by kernel_rfl) (fun hpre => ?_)
 repeat' ((conv => whnf);first|(with_reducible first|rfl|exact absTF|exact absFT)|exact True.intro|intro _|refine And.intro ?_ ?_|refine Fin.mk ?_|refine W1 rfl ?_ ?_|refine W2 rfl ?_ ?_|refine W3 rfl ?_ ?_|refine W4 ?_ ?_|refine W5 rfl ?_ ?_|refine W6 ?_ ?_|refine AppN.mk ?_|refine X1 (W1 rfl ?_ ?_)|refine X1 (W2 rfl ?_ ?_)|refine X2 (W7 rfl ?_ ?_)|refine X3 (W7 rfl ?_ ?_)|refine X4 (W7 rfl ?_ ?_)|refine X5 (W7 rfl ?_ ?_))
 all_goals (try (conv => whnf))
 all_goals (try first|exact obA|refine Ob.mk ?_)
 refine LoopStop.mk (α := Nat) (fun n => [(1, .rd intTy (l.take n))]) (fun _ => []) 20 (fun n => n ≤ l.length ∧ cutR (implN t nm) l l.length = cutR (implN t nm) l n) (fun n => n) l.length (by simp) ?_ (fun n hC => ?_)
 ·repeat' ((conv => whnf);first|(with_reducible first|rfl|exact absTF|exact absFT)|exact True.intro|intro _|refine And.intro ?_ ?_|refine Fin.mk ?_|refine W1 rfl ?_ ?_|refine W2 rfl ?_ ?_|refine W3 rfl ?_ ?_|refine W4 ?_ ?_|refine W5 rfl ?_ ?_|refine W6 ?_ ?_|refine AppN.mk ?_|refine X1 (W1 rfl ?_ ?_)|refine X1 (W2 rfl ?_ ?_)|refine X2 (W7 rfl ?_ ?_)|refine X3 (W7 rfl ?_ ?_)|refine X4 (W7 rfl ?_ ?_)|refine X5 (W7 rfl ?_ ?_))
  all_goals (try (conv => whnf))
  all_goals (try first|exact obA|refine Ob.mk ?_)
  all_goals (first | rfl | (rw [List.take_of_length_le (Nat.le_refl _)]; done))
 ·obtain ⟨hn, hC⟩ := hC
  have e0 := len_take hn
  have e1 : ((n : Int) - 1).toNat = n - 1 := by omega
  have e2 : 1 < n → (l.take n).getD (n - 1) intTy.dflt = l.getD (n - 1) 0 := fun h => take_getD (by omega)
  have e3 := hpre.1 ((l.take n).getD (n - 1) intTy.dflt)
  repeat' ((conv => whnf);first|(with_reducible first|rfl|exact absTF|exact absFT)|exact True.intro|intro _|refine And.intro ?_ ?_|refine Fin.mk ?_|refine W1 rfl ?_ ?_|refine W2 rfl ?_ ?_|refine W3 rfl ?_ ?_|refine W4 ?_ ?_|refine W5 rfl ?_ ?_|refine W6 ?_ ?_|refine AppN.mk ?_|refine X1 (W1 rfl ?_ ?_)|refine X1 (W2 rfl ?_ ?_)|refine X2 (W7 rfl ?_ ?_)|refine X3 (W7 rfl ?_ ?_)|refine X4 (W7 rfl ?_ ?_)|refine X5 (W7 rfl ?_ ?_))
  all_goals (try (conv => whnf))
  all_goals (try rw [e0] at *)
  all_goals (try rw [e1] at *)
  all_goals (try rw [take_pred] at *)
  all_goals (try first|exact obA|refine Ob.mk ?_)
  ·rename_i h1 h
   have h1 : 1 < n := by have := of_decide_eq_true h1; omega
   have h : (!implN t nm ((l.take n).getD (n - 1) intTy.dflt)) = true := by rw [implN_neg]; exact h
   rw [e2 h1] at h
   rw [hC.trans (cutR_stop h1 (by simpa using h))]; rfl
  ·rename_i h1 h hz
   have h1 : 1 < n := by have := of_decide_eq_true h1; omega
   have h : (!implN t nm ((l.take n).getD (n - 1) intTy.dflt)) = false := by rw [implN_neg]; exact h
   rw [e2 h1] at h
   refine Rnd.mk ⟨n - 1, ⟨by omega, hC.trans (cutR_go h1 (by simpa using h))⟩, by omega, ?_, ?_, ?_⟩
   all_goals exact vcA
  ·rename_i h1
   have h1 : ¬ 1 < n := by have := of_decide_eq_false h1; omega
   rw [hC.trans (cutR_one h1)]; rfl
instance qpPop (t : List NodeD) (op : List Int) (nm : List UInt8) (md bk lx fm hd : Int) (fo sk : Bool) (ins : List UInt8) :
  FnM BB 22 [.loc 0 0, .str nm] [(0, .box [.own 1, .own 2, .nils, .int .i64 md, .int .i64 bk, .int .i64 lx, .int .i64 fm, .int .i64 hd, .bool fo, .bool sk, .str ins]), (1, .own nodeTy t), (2, .own intTy op)] (shortN t ∧ nm.length ≤ 100000 ∧ op.length ≤ 100000)
   (.tup []) [(0, .box [.own 1, .own 2, .nils, .int .i64 md, .int .i64 bk, .int .i64 lx, .int .i64 fm, .int .i64 hd, .bool fo, .bool sk, .str ins]), (1, .own nodeTy t), (2, .own intTy (op.take (popR (fun x => isE t x nm) op op.length)))] := by
 refine FnM.intro (N := 17) [0, 1] [(0, [0, 0, 0, 0, 1, 0, 0, 0, 1, 0, 3, 0, 0, 3])] 3 Tryz.call22 Tryz.func22 rfl rfl (by kernel_rfl) (fun hpre => ?_)
 obtain ⟨h1, h2, h3⟩ := hpre
 repeat' ((conv => whnf);first|(with_reducible first|rfl|exact absTF|exact absFT)|exact True.intro|intro _|refine And.intro ?_ ?_|refine Fin.mk ?_|refine W1 rfl ?_ ?_|refine W2 rfl ?_ ?_|refine W3 rfl ?_ ?_|refine W4 ?_ ?_|refine W5 rfl ?_ ?_|refine W6 ?_ ?_|refine AppN.mk ?_|refine X1 (W1 rfl ?_ ?_)|refine X1 (W2 rfl ?_ ?_)|refine X2 (W7 rfl ?_ ?_)|refine X3 (W7 rfl ?_ ?_)|refine X4 (W7 rfl ?_ ?_)|refine X5 (W7 rfl ?_ ?_))
 all_goals (try (conv => whnf))
 all_goals (try first|exact obA|refine Ob.mk ?_)
 all_goals (first | exact ⟨h1, h2, h3⟩ | exact ⟨h2, h3⟩ | rfl | trace_state)
instance qpImplied (t : List NodeD) (op : List Int) (nm : List UInt8) (md bk lx fm hd : Int) (fo sk : Bool) (ins : List UInt8) :
  FnM BB 24 [.loc 0 0, .str nm] [(0, .box [.own 1, .own 2, .nils, .int .i64 md, .int .i64 bk, .int .i64 lx, .int .i64 fm, .int .i64 hd, .bool fo, .bool sk, .str ins]), (1, .own nodeTy t), (2, .own intTy op)] (shortN t ∧ nm.length ≤ 100000 ∧ op.length ≤ 100000)
   (.tup []) [(0, .box [.own 1, .own 2, .nils, .int .i64 md, .int .i64 bk, .int .i64 lx, .int .i64 fm, .int .i64 hd, .bool fo, .bool sk, .str ins]), (1, .own nodeTy t), (2, .own intTy (op.take (cutR (implN t nm) op op.length)))] := by
 refine FnM.intro (N := 17) [0, 1] [(0, [0, 0, 0, 0, 1, 0, 0, 0, 1, 0, 3, 0, 0, 3])] 3 Tryz.call24 Tryz.func24 rfl rfl (by kernel_rfl) (fun hpre => ?_)
 obtain ⟨h1, h2, h3⟩ := hpre
 repeat' ((conv => whnf);first|(with_reducible first|rfl|exact absTF|exact absFT)|exact True.intro|intro _|refine And.intro ?_ ?_|refine Fin.mk ?_|refine W1 rfl ?_ ?_|refine W2 rfl ?_ ?_|refine W3 rfl ?_ ?_|refine W4 ?_ ?_|refine W5 rfl ?_ ?_|refine W6 ?_ ?_|refine AppN.mk ?_|refine X1 (W1 rfl ?_ ?_)|refine X1 (W2 rfl ?_ ?_)|refine X2 (W7 rfl ?_ ?_)|refine X3 (W7 rfl ?_ ?_)|refine X4 (W7 rfl ?_ ?_)|refine X5 (W7 rfl ?_ ?_))
 all_goals (try (conv => whnf))
 all_goals (try first|exact obA|refine Ob.mk ?_)
 all_goals (first | exact ⟨h1, h2, h3⟩ | exact ⟨h2, h3⟩ | rfl | trace_state)
instance qpTo (t : List NodeD) (op : List Int) (nm : List UInt8) (md bk lx fm hd : Int) (fo sk : Bool) (ins : List UInt8) :
  FnM BB 26 [.loc 0 0, .str nm] [(0, .box [.own 1, .own 2, .nils, .int .i64 md, .int .i64 bk, .int .i64 lx, .int .i64 fm, .int .i64 hd, .bool fo, .bool sk, .str ins]), (1, .own nodeTy t), (2, .own intTy op)] (shortN t ∧ nm.length ≤ 100000 ∧ op.length ≤ 100000)
   (.tup []) [(0, .box [.own 1, .own 2, .nils, .int .i64 md, .int .i64 bk, .int .i64 lx, .int .i64 fm, .int .i64 hd, .bool fo, .bool sk, .str ins]), (1, .own nodeTy t), (2, .own intTy (op.take (cutR (fun x => !isE t x nm) op op.length)))] := by
 refine FnM.intro (N := 17) [0, 1] [(0, [0, 0, 0, 0, 1, 0, 0, 0, 1, 0, 3, 0, 0, 3])] 3 Tryz.call26 Tryz.func26 rfl rfl (by kernel_rfl) (fun hpre => ?_)
 obtain ⟨h1, h2, h3⟩ := hpre
 repeat' ((conv => whnf);first|(with_reducible first|rfl|exact absTF|exact absFT)|exact True.intro|intro _|refine And.intro ?_ ?_|refine Fin.mk ?_|refine W1 rfl ?_ ?_|refine W2 rfl ?_ ?_|refine W3 rfl ?_ ?_|refine W4 ?_ ?_|refine W5 rfl ?_ ?_|refine W6 ?_ ?_|refine AppN.mk ?_|refine X1 (W1 rfl ?_ ?_)|refine X1 (W2 rfl ?_ ?_)|refine X2 (W7 rfl ?_ ?_)|refine X3 (W7 rfl ?_ ?_)|refine X4 (W7 rfl ?_ ?_)|refine X5 (W7 rfl ?_ ?_))
 all_goals (try (conv => whnf))
 all_goals (try first|exact obA|refine Ob.mk ?_)
 all_goals (first | exact ⟨h1, h2, h3⟩ | exact ⟨h2, h3⟩ | rfl | trace_state)
instance qrPop (t : List NodeD) (op : List Int) (nm : List UInt8) (md bk lx fm hd : Int) (fo sk : Bool) (ins : List UInt8) :
  FnM BB 23 [.loc 0 0, .str nm] [(0, .box [.own 1, .own 2, .nils, .int .i64 md, .int .i64 bk, .int .i64 lx, .int .i64 fm, .int .i64 hd, .bool fo, .bool sk, .str ins]), (1, .own nodeTy t), (2, .own intTy op)] (shortN t ∧ nm.length ≤ 100000 ∧ op.length ≤ 100000)
   (.tup []) [(0, .box [.own 1, .own 2, .nils, .int .i64 md, .int .i64 bk, .int .i64 lx, .int .i64 fm, .int .i64 hd, .bool fo, .bool sk, .str ins]), (1, .own nodeTy t), (2, .own intTy (op.take (popR (fun x => isE t x nm) op op.length)))] := by
 refine FnM.intro (N := 17) [0, 1] [(0, [0, 0, 0, 0, 1, 0, 0, 0, 1, 0, 3, 0, 0, 3])] 3 Tryz.call23 Tryz.func23 rfl rfl (by kernel_rfl) (fun hpre => ?_)
 obtain ⟨h1, h2, h3⟩ := hpre
 repeat' ((conv => whnf);first|(with_reducible first|rfl|exact absTF|exact absFT)|exact True.intro|intro _|refine And.intro ?_ ?_|refine Fin.mk ?_|refine W1 rfl ?_ ?_|refine W2 rfl ?_ ?_|refine W3 rfl ?_ ?_|refine W4 ?_ ?_|refine W5 rfl ?_ ?_|refine W6 ?_ ?_|refine AppN.mk ?_|refine X1 (W1 rfl ?_ ?_)|refine X1 (W2 rfl ?_ ?_)|refine X2 (W7 rfl ?_ ?_)|refine X3 (W7 rfl ?_ ?_)|refine X4 (W7 rfl ?_ ?_)|refine X5 (W7 rfl ?_ ?_))
 all_goals (try (conv => whnf))
 all_goals (try first|exact obA|refine Ob.mk ?_)
 all_goals (first | exact ⟨h1, h2, h3⟩ | exact ⟨h2, h3⟩ | rfl | trace_state)
instance qrImplied (t : List NodeD) (op : List Int) (nm : List UInt8) (md bk lx fm hd : Int) (fo sk : Bool) (ins : List UInt8) :
  FnM BB 25 [.loc 0 0, .str nm] [(0, .box [.own 1, .own 2, .nils, .int .i64 md, .int .i64 bk, .int .i64 lx, .int .i64 fm, .int .i64 hd, .bool fo, .bool sk, .str ins]), (1, .own nodeTy t), (2, .own intTy op)] (shortN t ∧ nm.length ≤ 100000 ∧ op.length ≤ 100000)
   (.tup []) [(0, .box [.own 1, .own 2, .nils, .int .i64 md, .int .i64 bk, .int .i64 lx, .int .i64 fm, .int .i64 hd, .bool fo, .bool sk, .str ins]), (1, .own nodeTy t), (2, .own intTy (op.take (cutR (implN t nm) op op.length)))] := by
 refine FnM.intro (N := 17) [0, 1] [(0, [0, 0, 0, 0, 1, 0, 0, 0, 1, 0, 3, 0, 0, 3])] 3 Tryz.call25 Tryz.func25 rfl rfl (by kernel_rfl) (fun hpre => ?_)
 obtain ⟨h1, h2, h3⟩ := hpre
 repeat' ((conv => whnf);first|(with_reducible first|rfl|exact absTF|exact absFT)|exact True.intro|intro _|refine And.intro ?_ ?_|refine Fin.mk ?_|refine W1 rfl ?_ ?_|refine W2 rfl ?_ ?_|refine W3 rfl ?_ ?_|refine W4 ?_ ?_|refine W5 rfl ?_ ?_|refine W6 ?_ ?_|refine AppN.mk ?_|refine X1 (W1 rfl ?_ ?_)|refine X1 (W2 rfl ?_ ?_)|refine X2 (W7 rfl ?_ ?_)|refine X3 (W7 rfl ?_ ?_)|refine X4 (W7 rfl ?_ ?_)|refine X5 (W7 rfl ?_ ?_))
 all_goals (try (conv => whnf))
 all_goals (try first|exact obA|refine Ob.mk ?_)
 all_goals (first | exact ⟨h1, h2, h3⟩ | exact ⟨h2, h3⟩ | rfl | trace_state)
instance qrTo (t : List NodeD) (op : List Int) (nm : List UInt8) (md bk lx fm hd : Int) (fo sk : Bool) (ins : List UInt8) :
  FnM BB 27 [.loc 0 0, .str nm] [(0, .box [.own 1, .own 2, .nils, .int .i64 md, .int .i64 bk, .int .i64 lx, .int .i64 fm, .int .i64 hd, .bool fo, .bool sk, .str ins]), (1, .own nodeTy t), (2, .own intTy op)] (shortN t ∧ nm.length ≤ 100000 ∧ op.length ≤ 100000)
   (.tup []) [(0, .box [.own 1, .own 2, .nils, .int .i64 md, .int .i64 bk, .int .i64 lx, .int .i64 fm, .int .i64 hd, .bool fo, .bool sk, .str ins]), (1, .own nodeTy t), (2, .own intTy (op.take (cutR (fun x => !isE t x nm) op op.length)))] := by
 refine FnM.intro (N := 17) [0, 1] [(0, [0, 0, 0, 0, 1, 0, 0, 0, 1, 0, 3, 0, 0, 3])] 3 Tryz.call27 Tryz.func27 rfl rfl (by kernel_rfl) (fun hpre => ?_)
 obtain ⟨h1, h2, h3⟩ := hpre
 repeat' ((conv => whnf);first|(with_reducible first|rfl|exact absTF|exact absFT)|exact True.intro|intro _|refine And.intro ?_ ?_|refine Fin.mk ?_|refine W1 rfl ?_ ?_|refine W2 rfl ?_ ?_|refine W3 rfl ?_ ?_|refine W4 ?_ ?_|refine W5 rfl ?_ ?_|refine W6 ?_ ?_|refine AppN.mk ?_|refine X1 (W1 rfl ?_ ?_)|refine X1 (W2 rfl ?_ ?_)|refine X2 (W7 rfl ?_ ?_)|refine X3 (W7 rfl ?_ ?_)|refine X4 (W7 rfl ?_ ?_)|refine X5 (W7 rfl ?_ ?_))
 all_goals (try (conv => whnf))
 all_goals (try first|exact obA|refine Ob.mk ?_)
 all_goals (first | exact ⟨h1, h2, h3⟩ | exact ⟨h2, h3⟩ | rfl | trace_state)
end Go.Vc

namespace Go.Vc
open Go.Proofs
set_option maxRecDepth 10000
set_option maxHeartbeats 8000000
def newTr (ins : List UInt8) : List NodeD := bif ins == [] then [rootN] else newT
def newOp (ins : List UInt8) : List Int := bif ins == [] then [] else [1]
def newMd (ins : List UInt8) : Int := bif ins == [] then 0 else modeL ins 0
def newLx (ins : List UInt8) : Int := bif ins == [] then 0 else W.kLexed ins
theorem new_ne {ins : List UInt8} (h : ins ≠ []) : newTr ins = newT ∧ newOp ins = [1] ∧ newMd ins = modeL ins 0 ∧ newLx ins = W.kLexed ins := by
 have e : (ins == []) = false := beq_eq_false_iff_ne.2 h
 unfold newTr newOp newMd newLx
 rw [e]; exact ⟨rfl, rfl, rfl, rfl⟩
theorem qpNew0 : FnM BB 8 [.str []] [] True (.loc 0 0)
      [(0, .box [.own 1, .own 2, .nils, .int .i64 0, .int .i64 0, .int .i64 0, .int .i64 0, .int .i64 0, .bool false, .bool false, .str []]), (1, .own nodeTy [rootN]), (2, .own intTy [])] := by
  refine FnM.intro (N := 40) [0, 2, 3, 4, 10] [] 3 Tryz.call8 Tryz.func8 rfl rfl (by kernel_rfl) (fun hpre => ?_)
  repeat' ((conv => whnf);first|(with_reducible first|rfl|exact absTF|exact absFT)|exact True.intro|(intro hq;(try (exfalso;revert hq;decide +kernel)))|refine And.intro ?_ ?_|refine Fin.mk ?_|refine W1 rfl ?_ ?_|refine W2 rfl ?_ ?_|refine W3 rfl ?_ ?_|refine W4 ?_ ?_|refine W5 rfl ?_ ?_|refine W6 ?_ ?_|refine AppN.mk ?_|refine X1 (W1 rfl ?_ ?_)|refine X1 (W2 rfl ?_ ?_)|refine X2 (W7 rfl ?_ ?_)|refine X3 (W7 rfl ?_ ?_)|refine X4 (W7 rfl ?_ ?_)|refine X5 (W7 rfl ?_ ?_))
  all_goals (try (conv => whnf))
  all_goals (try first|exact obA|refine Ob.mk ?_)
  all_goals (first | rfl | decide | trace_state)
theorem qrNew0 : FnM BB 9 [.str []] [] True (.loc 0 0)
      [(0, .box [.own 1, .own 2, .nils, .int .i64 0, .int .i64 0, .int .i64 0, .int .i64 0, .int .i64 0, .bool false, .bool false, .str []]), (1, .own nodeTy [rootN]), (2, .own intTy [])] := by
  refine FnM.intro (N := 34) [0, 2, 3, 4, 10] [] 3 Tryz.call9 Tryz.func9 rfl rfl (by kernel_rfl) (fun hpre => ?_)
  repeat' ((conv => whnf);first|(with_reducible first|rfl|exact absTF|exact absFT)|exact True.intro|(intro hq;(try (exfalso;revert hq;decide +kernel)))|refine And.intro ?_ ?_|refine Fin.mk ?_|refine W1 rfl ?_ ?_|refine W2 rfl ?_ ?_|refine W3 rfl ?_ ?_|refine W4 ?_ ?_|refine W5 rfl ?_ ?_|refine W6 ?_ ?_|refine AppN.mk ?_|refine X1 (W1 rfl ?_ ?_)|refine X1 (W2 rfl ?_ ?_)|refine X2 (W7 rfl ?_ ?_)|refine X3 (W7 rfl ?_ ?_)|refine X4 (W7 rfl ?_ ?_)|refine X5 (W7 rfl ?_ ?_))
  all_goals (try (conv => whnf))
  all_goals (try first|exact obA|refine Ob.mk ?_)
  all_goals (first | rfl | decide | trace_state)
instance (priority := 2000) qpNew (ins : List UInt8) : FnM BB 8 [.str ins] [] (ins.length ≤ 60) (.loc 0 0)
      [(0, .box [.own 1, .own 2, .nils, .int .i64 (newMd ins), .int .i64 0, .int .i64 (newLx ins), .int .i64 0, .int .i64 0, .bool false, .bool false, .str ins]), (1, .own nodeTy (newTr ins)), (2, .own intTy (newOp ins))] :=
  ⟨Tryz.call8, fun h => by
    by_cases h0 : ins = []
    · subst h0; exact qpNew0.ok trivial
    · obtain ⟨e1, e2, e3, e4⟩ := new_ne h0
      rw [e1, e2, e3, e4]
      exact (u41 ins).ok ⟨h0, h⟩⟩
instance (priority := 2000) qrNew (ins : List UInt8) : FnM BB 9 [.str ins] [] (ins.length ≤ 60) (.loc 0 0)
      [(0, .box [.own 1, .own 2, .nils, .int .i64 (newMd ins), .int .i64 0, .int .i64 (newLx ins), .int .i64 0, .int .i64 0, .bool false, .bool false, .str ins]), (1, .own nodeTy (newTr ins)), (2, .own intTy (newOp ins))] :=
  ⟨Tryz.call9, fun h => by
    by_cases h0 : ins = []
    · subst h0; exact qrNew0.ok trivial
    · obtain ⟨e1, e2, e3, e4⟩ := new_ne h0
      rw [e1, e2, e3, e4]
      exact (rNew17 ins).ok ⟨h0, h⟩⟩
end Go.Vc

namespace Go.Vc
open Go.Proofs
set_option maxRecDepth 10000
set_option maxHeartbeats 4000000
instance qsf12 (op : List Int) (md bk lx fm hd : Int) (fo sk : Bool) (ins : List UInt8) (l : List NodeD) (k s : Int) (nm : List UInt8) (at_ : List AttrD) (d : List UInt8) (up : Int) (kids : List Int) :
  FnM BB 34 [.loc 0 0, .agg [.int .i64 k, .int .i64 s, .str nm, .rd attrTy at_, .str d, .int .i64 up, .rd intTy kids]] [(0, .box [.own 1, .own 2, .nils, .int .i64 md, .int .i64 bk, .int .i64 lx, .int .i64 fm, .int .i64 hd, .bool fo, .bool sk, .str ins]), (1, .own nodeTy l), (2, .own intTy op)] (l.length ≤ 100000 ∧ at_.length ≤ 100000)
   (.int .i64 l.length) [(0, .box [.own 1, .own 2, .nils, .int .i64 md, .int .i64 bk, .int .i64 lx, .int .i64 fm, .int .i64 hd, .bool fo, .bool sk, .str ins]), (1, .own nodeTy (addT l (k, s, nm, at_, d, up, kids))), (2, .own intTy op)] := by
 refine FnM.intro (N := 32) [0, 1, 3, 4] [(1, [0, 0, 0, 0, 1, 0, 1, 0, 1, 0, 1, 0, 1, 1, 0, 1, 1, 1, 3, 0, 0, 3])] 3 Tryz.call34 Tryz.func34 rfl rfl (by kernel_rfl) (fun hpre => ?_)
 obtain ⟨hp1, hp2⟩ := hpre
 repeat' ((conv => whnf);first|(with_reducible first|rfl|exact absTF|exact absFT)|exact True.intro|intro _|refine And.intro ?_ ?_|refine Fin.mk ?_|refine W1 rfl ?_ ?_|refine W2 rfl ?_ ?_|refine W3 rfl ?_ ?_|refine W4 ?_ ?_|refine W5 rfl ?_ ?_|refine W6 ?_ ?_|refine AppN.mk ?_|refine X1 (W1 rfl ?_ ?_)|refine X1 (W2 rfl ?_ ?_)|refine X2 (W7 rfl ?_ ?_)|refine X3 (W7 rfl ?_ ?_)|refine X4 (W7 rfl ?_ ?_)|refine X5 (W7 rfl ?_ ?_))
 all_goals (try (conv => whnf))
 all_goals (try first|exact obA|refine Ob.mk ?_)
 ·simp
 ·rfl
instance qsf15 (op : List Int) (md bk lx fm hd : Int) (fo sk : Bool) (ins : List UInt8) (l : List NodeD) (kid : Int) : FnM BB 72 [.loc 0 0, .int .i64 kid] [(0, .box [.own 1, .own 2, .nils, .int .i64 md, .int .i64 bk, .int .i64 lx, .int .i64 fm, .int .i64 hd, .bool fo, .bool sk, .str ins]), (1, .own nodeTy l), (2, .own intTy op)] (smallT l = true)
      (.tup []) [(0, .box [.own 1, .own 2, .nils, .int .i64 md, .int .i64 bk, .int .i64 lx, .int .i64 fm, .int .i64 hd, .bool fo, .bool sk, .str ins]), (1, .own nodeTy (cutT l kid)), (2, .own intTy op)] := by
  refine FnM.intro (N := 54) [0, 1, 4, 5, 12, 46] [(2, [0, 0, 0, 1, 0, 0, 0, 1, 0, 1, 1, 1, 3, 3])] 3 Tryz.call72 Tryz.func72 rfl rfl (by kernel_rfl) (fun hpre => ?_)
  have H : placeT l kid ≥ 0 → (0 ≤ kid ∧ kid < l.length) ∧ (0 ≤ (nd l kid).up ∧ (nd l kid).up < l.length) ∧ placeT l kid < (nd l (nd l kid).up).kids.length ∧ (nd l (nd l kid).up).kids.length ≤ 1000 := by
    intro h
    obtain ⟨h1, h2, h3⟩ := place_nonneg h
    exact ⟨isT_iff.1 h1, isT_iff.1 h2, h3, (small_at hpre _ h2).2⟩
  by_cases h0 : placeT l kid ≥ 0
  · obtain ⟨f1, f2, f3, f4⟩ := H h0
    clear H
    repeat' ((conv => whnf);first|(with_reducible first|rfl|exact absTF|exact absFT)|exact True.intro|intro _|refine And.intro ?_ ?_|refine Fin.mk ?_|refine W1 rfl ?_ ?_|refine W2 rfl ?_ ?_|refine W3 rfl ?_ ?_|refine W4 ?_ ?_|refine W5 rfl ?_ ?_|refine W6 ?_ ?_|refine AppN.mk ?_|refine X1 (W1 rfl ?_ ?_)|refine X1 (W2 rfl ?_ ?_)|refine X2 (W7 rfl ?_ ?_)|refine X3 (W7 rfl ?_ ?_)|refine X4 (W7 rfl ?_ ?_)|refine X5 (W7 rfl ?_ ?_))
    all_goals (try (conv => whnf))
    all_goals (try first|exact obA|refine Ob.mk ?_)
    all_goals (first
      | (show (nd l kid).up.toNat < _; omega)
      | exact Nat.le_trans f4 (by omega)
      | (show 0 ≤ placeT l kid ∧ _; refine ⟨h0, by omega, ?_⟩; show placeT l kid + 1 ≤ ((nd l (nd l kid).up).kids.length : Int); omega)
      | exact isT_iff.1 ((Bool.and_eq_true_iff.1 ‹(_ && _) = true›).2)
      | skip)
    · rename_i h
      have h := Bool.and_eq_true_iff.1 h
      have h2 : isT (cutA l kid) kid = true := by rw [cutA, if_pos h0]; exact h.2
      have h3 : isT l kid = true := by have := h.2; rw [isT_set] at this; exact this
      rw [cutT, if_pos ⟨by simpa using h.1, h3⟩, cutA, if_pos h0]
      rfl
    · rename_i h
      have h1 : ¬ (kid ≠ 0 ∧ isT l kid = true) := fun hc => by
        rw [isT_set] at h
        simp [hc.1, hc.2] at h
      rw [cutT, if_neg h1, cutA, if_pos h0]
      rfl
    all_goals (exfalso; have := of_decide_eq_false ‹decide (placeT l kid ≥ 0) = false›; exact this h0)
  · have h1 : decide (placeT l kid ≥ 0) = false := decide_eq_false h0
    clear H
    repeat' ((conv => whnf);first|(with_reducible first|rfl|exact absTF|exact absFT)|exact True.intro|intro _|refine And.intro ?_ ?_|refine Fin.mk ?_|refine W1 rfl ?_ ?_|refine W2 rfl ?_ ?_|refine W3 rfl ?_ ?_|refine W4 ?_ ?_|refine W5 rfl ?_ ?_|refine W6 ?_ ?_|refine AppN.mk ?_|refine X1 (W1 rfl ?_ ?_)|refine X1 (W2 rfl ?_ ?_)|refine X2 (W7 rfl ?_ ?_)|refine X3 (W7 rfl ?_ ?_)|refine X4 (W7 rfl ?_ ?_)|refine X5 (W7 rfl ?_ ?_))
    all_goals (try (conv => whnf))
    all_goals (try first|exact obA|refine Ob.mk ?_)
    all_goals (first
      | (exfalso; exact h0 (of_decide_eq_true ‹decide (placeT l kid ≥ 0) = true›))
      | exact isT_iff.1 ((Bool.and_eq_true_iff.1 ‹(_ && _) = true›).2)
      | (have hh := isT_iff.1 ((Bool.and_eq_true_iff.1 ‹(kid != 0 && isT l kid) = true›).2); omega)
      | skip)
    · rename_i h
      have h := Bool.and_eq_true_iff.1 h
      rw [cutT, if_pos ⟨by simpa using h.1, h.2⟩, cutA, if_neg h0]
      rfl
    · rename_i h
      have h1 : ¬ (kid ≠ 0 ∧ isT l kid = true) := fun hc => by
        simp [hc.1, hc.2] at h
      rw [cutT, if_neg h1, cutA, if_neg h0]
instance qsf13 (op : List Int) (md bk lx fm hd : Int) (fo sk : Bool) (ins : List UInt8) (l : List NodeD) (up at_ kid : Int) : FnM BB 35 [.loc 0 0, .int .i64 up, .int .i64 at_, .int .i64 kid] [(0, .box [.own 1, .own 2, .nils, .int .i64 md, .int .i64 bk, .int .i64 lx, .int .i64 fm, .int .i64 hd, .bool fo, .bool sk, .str ins]), (1, .own nodeTy l), (2, .own intTy op)] (smallT l = true)
      (.tup []) [(0, .box [.own 1, .own 2, .nils, .int .i64 md, .int .i64 bk, .int .i64 lx, .int .i64 fm, .int .i64 hd, .bool fo, .bool sk, .str ins]), (1, .own nodeTy (putT l up at_ kid)), (2, .own intTy op)] := by
  refine FnM.intro (N := 71) [0, 1, 2, 3, 8, 34] [(3, [0, 0, 0, 0, 1, 2, 0, 1, 0, 0, 0, 1, 1, 1, 0, 2, 3, 0, 0, 3])] 3 Tryz.call35 Tryz.func35 rfl rfl (by kernel_rfl) (fun hpre => ?_)
  have hsm := cutT_sm (kid := kid) (smB_of hpre)
  have hll := small_len hpre
  have hu : (!isT l up || !isT l kid || kid == 0 || holdsT l kid up) = false → (0 ≤ up ∧ up < (cutT l kid).length) ∧ (0 ≤ kid ∧ kid < (cutT l kid).length) ∧ ((cutT l kid).getD up.toNat nodeTy.dflt).2.2.2.2.2.2.length ≤ 1000 := by
    intro h
    simp only [Bool.or_eq_false_iff, Bool.not_eq_false'] at h
    have h1 := isT_iff.1 h.1.1.1
    have h2 := isT_iff.1 h.1.1.2
    rw [cutT_len]
    exact ⟨h1, h2, (hsm.2 up.toNat (by rw [cutT_len]; omega)).2⟩
  repeat' ((conv => whnf);first|(with_reducible first|rfl|exact absTF|exact absFT)|exact True.intro|intro _|refine And.intro ?_ ?_|refine Fin.mk ?_|refine W1 rfl ?_ ?_|refine W2 rfl ?_ ?_|refine W3 rfl ?_ ?_|refine W4 ?_ ?_|refine W5 rfl ?_ ?_|refine W6 ?_ ?_|refine AppN.mk ?_|refine X1 (W1 rfl ?_ ?_)|refine X1 (W2 rfl ?_ ?_)|refine X2 (W7 rfl ?_ ?_)|refine X3 (W7 rfl ?_ ?_)|refine X4 (W7 rfl ?_ ?_)|refine X5 (W7 rfl ?_ ?_))
  all_goals (try (conv => whnf))
  all_goals (try first|exact obA|refine Ob.mk ?_)
  all_goals (first
    | omega
    | (rename_i h; obtain ⟨g1, g2, g3⟩ := hu h; first
        | exact g1
        | exact g2
        | omega
        | exact Nat.le_trans g3 (by omega)
        | (rw [List.length_set]; first | exact g2 | omega)
        | (refine ⟨?_, ?_, Nat.le_trans g3 (by omega)⟩ <;> rw [min_of] <;> omega))
    | skip)
  · rename_i h; rw [putT, if_pos h]
  · rename_i h
    rw [putT, if_neg (by rw [h]; exact Bool.false_ne_true)]
    rfl
instance ohAdd (op : List Int) (md bk lx fm hd : Int) (fo sk : Bool) (ins : List UInt8) (l : List NodeD) (k s : Int) (nm : List UInt8) (at_ : List AttrD) (d : List UInt8) (up : Int) (kids : List Int) :
  FnM BB 39 [.loc 0 0, .agg [.int .i64 k, .int .i64 s, .str nm, .rd attrTy at_, .str d, .int .i64 up, .rd intTy kids]] [(0, .box [.own 1, .own 2, .nils, .int .i64 md, .int .i64 bk, .int .i64 lx, .int .i64 fm, .int .i64 hd, .bool fo, .bool sk, .str ins]), (1, .own nodeTy l), (2, .own intTy op)] (l.length ≤ 100000 ∧ at_.length ≤ 100000)
   (.int .i64 l.length) [(0, .box [.own 1, .own 2, .nils, .int .i64 md, .int .i64 bk, .int .i64 lx, .int .i64 fm, .int .i64 hd, .bool fo, .bool sk, .str ins]), (1, .own nodeTy (addT l (k, s, nm, at_, d, up, kids))), (2, .own intTy op)] := by
 refine FnM.intro (N := 28) [0, 1, 3, 4] [(3, [0, 0, 0, 0, 1, 1, 1, 3, 0, 0, 3]), (1000003, [4])] 3 Tryz.call39 Tryz.func39 rfl rfl (by kernel_rfl) (fun hpre => ?_)
 obtain ⟨hp1, hp2⟩ := hpre
 repeat' ((conv => whnf);first|(with_reducible first|rfl|exact absTF|exact absFT)|exact True.intro|intro _|refine And.intro ?_ ?_|refine Fin.mk ?_|refine W1 rfl ?_ ?_|refine W2 rfl ?_ ?_|refine W3 rfl ?_ ?_|refine W4 ?_ ?_|refine W5 rfl ?_ ?_|refine W6 ?_ ?_|refine AppN.mk ?_|refine X1 (W1 rfl ?_ ?_)|refine X1 (W2 rfl ?_ ?_)|refine X2 (W7 rfl ?_ ?_)|refine X3 (W7 rfl ?_ ?_)|refine X4 (W7 rfl ?_ ?_)|refine X5 (W7 rfl ?_ ?_))
 all_goals (try (conv => whnf))
 all_goals (try first|exact obA|refine Ob.mk ?_)
 all_goals (first | (simp; done) | rfl | trace_state)
instance ohCut (op : List Int) (md bk lx fm hd : Int) (fo sk : Bool) (ins : List UInt8) (l : List NodeD) (kid : Int) : FnM BB 78 [.loc 0 0, .int .i64 kid] [(0, .box [.own 1, .own 2, .nils, .int .i64 md, .int .i64 bk, .int .i64 lx, .int .i64 fm, .int .i64 hd, .bool fo, .bool sk, .str ins]), (1, .own nodeTy l), (2, .own intTy op)] (smallT l = true)
      (.tup []) [(0, .box [.own 1, .own 2, .nils, .int .i64 md, .int .i64 bk, .int .i64 lx, .int .i64 fm, .int .i64 hd, .bool fo, .bool sk, .str ins]), (1, .own nodeTy (cutT l kid)), (2, .own intTy op)] := by
  refine FnM.intro (N := 77) [0, 1, 4, 5, 6, 7, 14, 33, 38, 69] [] 3 Tryz.call78 Tryz.func78 rfl rfl (by kernel_rfl) (fun hpre => ?_)
  have H : placeT l kid ≥ 0 → (0 ≤ kid ∧ kid < l.length) ∧ (0 ≤ (nd l kid).up ∧ (nd l kid).up < l.length) ∧ placeT l kid < (nd l (nd l kid).up).kids.length ∧ (nd l (nd l kid).up).kids.length ≤ 1000 := by
    intro h
    obtain ⟨h1, h2, h3⟩ := place_nonneg h
    exact ⟨isT_iff.1 h1, isT_iff.1 h2, h3, (small_at hpre _ h2).2⟩
  by_cases h0 : placeT l kid ≥ 0
  · obtain ⟨f1, f2, f3, f4⟩ := H h0
    clear H
    obtain ⟨a, ha⟩ : ∃ a : Nat, placeT l kid = a := ⟨(placeT l kid).toNat, by omega⟩
    obtain ⟨u, hu⟩ : ∃ u : Int, (l.getD kid.toNat nodeTy.dflt).2.2.2.2.2.1 = u := ⟨_, rfl⟩
    obtain ⟨ks, hks⟩ : ∃ ks : List Int, (l.getD u.toNat nodeTy.dflt).2.2.2.2.2.2 = ks := ⟨_, rfl⟩
    have hA2 : cutA l kid = l.set u.toNat (setKids (l.getD u.toNat nodeTy.dflt) (delA ks a ks.length)) := by
      have f3' : placeT l kid < (ks.length : Int) := by rw [← hks, ← hu]; exact f3
      unfold cutA
      rw [if_pos h0, delA_end ks a (by omega), ha, Int.toNat_natCast, show ((a : Int) + 1).toNat = a + 1 by omega]
      subst hu; subst hks; rfl
    have f2 : 0 ≤ u ∧ u < l.length := by rw [← hu]; exact f2
    have f3 : placeT l kid < (ks.length : Int) := by rw [← hks, ← hu]; exact f3
    have f4 : ks.length ≤ 1000 := by rw [← hks, ← hu]; exact f4
    have hAi : ∀ i, isT (cutA l kid) i = isT l i := isT_len cutA_len
    have fk : isT l kid = true := isT_iff.2 f1
    repeat' ((conv => whnf);first|(with_reducible first|rfl|exact absTF|exact absFT)|exact True.intro|intro _|refine And.intro ?_ ?_|refine Fin.mk ?_|refine W1 rfl ?_ ?_|refine W2 rfl ?_ ?_|refine W3 rfl ?_ ?_|refine W4 ?_ ?_|refine W5 rfl ?_ ?_|refine W6 ?_ ?_|refine AppN.mk ?_|refine X1 (W1 rfl ?_ ?_)|refine X1 (W2 rfl ?_ ?_)|refine X2 (W7 rfl ?_ ?_)|refine X3 (W7 rfl ?_ ?_)|refine X4 (W7 rfl ?_ ?_)|refine X5 (W7 rfl ?_ ?_))
    all_goals (try (conv => whnf))
    all_goals (try first|exact obA|refine Ob.mk ?_)
    all_goals (try simp only [hu, hks])
    all_goals (try (exfalso; have h := of_decide_eq_false ‹decide (placeT l kid ≥ 0) = false›; exact h h0))
    all_goals (first | exact f1 | exact f2 | omega | skip)
    refine LoopStop.mk (α := Nat) (fun i => [(7, .int .i64 i), (6, .own 20)]) (fun i => [(20, .own intTy (delA ks a i))]) 30 (fun i => i ≤ ks.length) (fun i => ks.length - i) 0 (by simp) ?_ (fun i hi => ?_)
    · repeat' ((conv => whnf);first|(with_reducible first|rfl|exact absTF|exact absFT)|exact True.intro|intro _|refine And.intro ?_ ?_|refine Fin.mk ?_|refine W1 rfl ?_ ?_|refine W2 rfl ?_ ?_|refine W3 rfl ?_ ?_|refine W4 ?_ ?_|refine W5 rfl ?_ ?_|refine W6 ?_ ?_|refine AppN.mk ?_|refine X1 (W1 rfl ?_ ?_)|refine X1 (W2 rfl ?_ ?_)|refine X2 (W7 rfl ?_ ?_)|refine X3 (W7 rfl ?_ ?_)|refine X4 (W7 rfl ?_ ?_)|refine X5 (W7 rfl ?_ ?_))
      all_goals (try (conv => whnf))
      all_goals (try first|exact obA|refine Ob.mk ?_)
      all_goals (first | rfl | (simp [delA]; done) | trace_state)
    · have hl := delA_len ks a i
      have hst := delA_step ks a i
      repeat' ((conv => whnf);first|(with_reducible first|rfl|exact absTF|exact absFT)|exact True.intro|intro _|refine And.intro ?_ ?_|refine Fin.mk ?_|refine W1 rfl ?_ ?_|refine W2 rfl ?_ ?_|refine W3 rfl ?_ ?_|refine W4 ?_ ?_|refine W5 rfl ?_ ?_|refine W6 ?_ ?_|refine AppN.mk ?_|refine X1 (W1 rfl ?_ ?_)|refine X1 (W2 rfl ?_ ?_)|refine X2 (W7 rfl ?_ ?_)|refine X3 (W7 rfl ?_ ?_)|refine X4 (W7 rfl ?_ ?_)|refine X5 (W7 rfl ?_ ?_))
      all_goals (try (conv => whnf))
      all_goals (try first|exact obA|refine Ob.mk ?_)
      all_goals (try simp only [hu, hks, Int.toNat_natCast])
      all_goals (try (have b1 : (i : Int) < (ks.length : Int) := by (have h := of_decide_eq_true (show decide ((i : Int) < (List.length (l.getD u.toNat nodeTy.dflt).2.2.2.2.2.2 : Int)) = true from ‹_›); rw [hks] at h; exact h)))
      all_goals (try (have b1 : ¬ (i : Int) < (ks.length : Int) := by (have h := of_decide_eq_false (show decide ((i : Int) < (List.length (l.getD u.toNat nodeTy.dflt).2.2.2.2.2.2 : Int)) = false from ‹_›); rw [hks] at h; exact h)))
      all_goals (try (have hs := hst (by omega) (by omega)))
      all_goals (try (have e1 : i = a := by (have h : ((i : Int) != placeT l kid) = false := ‹_›; rw [bne_eq_false_iff_eq, ha] at h; omega)))
      all_goals (try (have e1 : ¬ i = a := by (have h : ((i : Int) != placeT l kid) = true := ‹_›; rw [bne_iff_ne, ha] at h; omega)))
      all_goals (try rw [if_pos e1] at hs)
      all_goals (try rw [if_neg e1] at hs)
      have f2' : u.toNat < l.length := by omega
      all_goals (first | exact f1 | exact f2 | exact f2' | omega | skip)
      · refine Rnd.mk ⟨i + 1, by omega, by omega, ?_⟩
        repeat' ((conv => whnf);first|(with_reducible first|rfl|exact absTF|exact absFT)|exact True.intro|intro _|refine And.intro ?_ ?_|refine Fin.mk ?_|refine W1 rfl ?_ ?_|refine W2 rfl ?_ ?_|refine W3 rfl ?_ ?_|refine W4 ?_ ?_|refine W5 rfl ?_ ?_|refine W6 ?_ ?_|refine AppN.mk ?_|refine X1 (W1 rfl ?_ ?_)|refine X1 (W2 rfl ?_ ?_)|refine X2 (W7 rfl ?_ ?_)|refine X3 (W7 rfl ?_ ?_)|refine X4 (W7 rfl ?_ ?_)|refine X5 (W7 rfl ?_ ?_))
        all_goals (try (conv => whnf))
        all_goals (try first|exact obA|refine Ob.mk ?_)
        all_goals (first | rfl | omega | (rw [hs]; done) | (rw [hs]; rfl) | trace_state)
      · refine Rnd.mk ⟨i + 1, by omega, by omega, ?_⟩
        repeat' ((conv => whnf);first|(with_reducible first|rfl|exact absTF|exact absFT)|exact True.intro|intro _|refine And.intro ?_ ?_|refine Fin.mk ?_|refine W1 rfl ?_ ?_|refine W2 rfl ?_ ?_|refine W3 rfl ?_ ?_|refine W4 ?_ ?_|refine W5 rfl ?_ ?_|refine W6 ?_ ?_|refine AppN.mk ?_|refine X1 (W1 rfl ?_ ?_)|refine X1 (W2 rfl ?_ ?_)|refine X2 (W7 rfl ?_ ?_)|refine X3 (W7 rfl ?_ ?_)|refine X4 (W7 rfl ?_ ?_)|refine X5 (W7 rfl ?_ ?_))
        all_goals (try (conv => whnf))
        all_goals (try first|exact obA|refine Ob.mk ?_)
        all_goals (first | rfl | omega | (rw [hs]; done) | (rw [hs]; rfl) | trace_state)
      all_goals (obtain rfl : i = ks.length := by omega)
      all_goals (try simp only [List.length_set])
      all_goals (first | exact f1 | (show Int.toNat _ < _; omega) | skip)
      all_goals (try (have hG : (isT (l.set u.toNat (setKids (l.getD u.toNat nodeTy.dflt) (delA ks a ks.length))) kid && kid != 0) = true := ‹_›; rw [isT_set, fk, Bool.true_and, bne_iff_ne] at hG; rw [cutT_on ⟨fk, hG⟩, hA2]; rfl))
      all_goals (try (have hG : (isT (l.set u.toNat (setKids (l.getD u.toNat nodeTy.dflt) (delA ks a ks.length))) kid && kid != 0) = false := ‹_›; rw [isT_set, fk, Bool.true_and, bne_eq_false_iff_eq] at hG; rw [cutT_off (fun q => q.2 hG), hA2]; rfl))
      all_goals trace_state
  · have hA : cutA l kid = l := by unfold cutA; rw [if_neg h0]
    have g1 : (isT l kid && kid != 0) = true → isT l kid = true ∧ kid ≠ 0 := fun h => by rw [Bool.and_eq_true, bne_iff_ne] at h; exact h
    have g0 : (isT l kid && kid != 0) = false → ¬ (isT l kid = true ∧ kid ≠ 0) := fun h q => by rw [q.1, Bool.true_and, bne_eq_false_iff_eq] at h; exact q.2 h
    repeat' ((conv => whnf);first|(with_reducible first|rfl|exact absTF|exact absFT)|exact True.intro|intro _|refine And.intro ?_ ?_|refine Fin.mk ?_|refine W1 rfl ?_ ?_|refine W2 rfl ?_ ?_|refine W3 rfl ?_ ?_|refine W4 ?_ ?_|refine W5 rfl ?_ ?_|refine W6 ?_ ?_|refine AppN.mk ?_|refine X1 (W1 rfl ?_ ?_)|refine X1 (W2 rfl ?_ ?_)|refine X2 (W7 rfl ?_ ?_)|refine X3 (W7 rfl ?_ ?_)|refine X4 (W7 rfl ?_ ?_)|refine X5 (W7 rfl ?_ ?_))
    all_goals (try (conv => whnf))
    all_goals (try first|exact obA|refine Ob.mk ?_)
    all_goals (try (exfalso; exact h0 (of_decide_eq_true ‹decide (placeT l kid ≥ 0) = true›)))
    all_goals (try (have q := g1 ‹_›; have q' := isT_iff.1 q.1))
    all_goals (try (have q := g0 ‹_›))
    all_goals (first | exact q' | (show Int.toNat _ < _; omega) | (rw [cutT_on q, hA]; rfl) | (rw [cutT_off q, hA]; done) | (rw [cutT_off q, hA]; rfl) | trace_state)
instance ohPut (op : List Int) (md bk lx fm hd : Int) (fo sk : Bool) (ins : List UInt8) (l : List NodeD) (up at_ kid : Int) : FnM BB 40 [.loc 0 0, .int .i64 up, .int .i64 at_, .int .i64 kid] [(0, .box [.own 1, .own 2, .nils, .int .i64 md, .int .i64 bk, .int .i64 lx, .int .i64 fm, .int .i64 hd, .bool fo, .bool sk, .str ins]), (1, .own nodeTy l), (2, .own intTy op)] (smallT l = true)
      (.tup []) [(0, .box [.own 1, .own 2, .nils, .int .i64 md, .int .i64 bk, .int .i64 lx, .int .i64 fm, .int .i64 hd, .bool fo, .bool sk, .str ins]), (1, .own nodeTy (putT l up at_ kid)), (2, .own intTy op)] := by
  refine FnM.intro (N := 69) [0, 1, 2, 3, 8, 34] [(3, [0, 0, 0, 1, 0, 0, 0, 0, 1, 1, 1, 0, 1, 3, 3, 3])] 3 Tryz.call40 Tryz.func40 rfl rfl (by kernel_rfl) (fun hpre => ?_)
  have hsm := cutT_sm (kid := kid) (smB_of hpre)
  have hll := small_len hpre
  have hu : (!isT l up || !isT l kid || kid == 0 || holdsT l kid up) = false → (0 ≤ up ∧ up < (cutT l kid).length) ∧ (0 ≤ kid ∧ kid < (cutT l kid).length) ∧ ((cutT l kid).getD up.toNat nodeTy.dflt).kids.length ≤ 1000 := by
    intro h
    simp only [Bool.or_eq_false_iff, Bool.not_eq_false'] at h
    have h1 := isT_iff.1 h.1.1.1
    have h2 := isT_iff.1 h.1.1.2
    rw [cutT_len]
    exact ⟨h1, h2, (hsm.2 up.toNat (by rw [cutT_len]; omega)).2⟩
  have hp1 : (!isT l up || !isT l kid || kid == 0 || holdsT l kid up) = true → putT l up at_ kid = l := fun h => by rw [putT, if_pos h]
  repeat' ((conv => whnf);first|(with_reducible first|rfl|exact absTF|exact absFT)|exact True.intro|intro _|refine And.intro ?_ ?_|refine Fin.mk ?_|refine W1 rfl ?_ ?_|refine W2 rfl ?_ ?_|refine W3 rfl ?_ ?_|refine W4 ?_ ?_|refine W5 rfl ?_ ?_|refine W6 ?_ ?_|refine AppN.mk ?_|refine X1 (W1 rfl ?_ ?_)|refine X1 (W2 rfl ?_ ?_)|refine X2 (W7 rfl ?_ ?_)|refine X3 (W7 rfl ?_ ?_)|refine X4 (W7 rfl ?_ ?_)|refine X5 (W7 rfl ?_ ?_))
  all_goals (try (conv => whnf))
  all_goals (try first|exact obA|refine Ob.mk ?_)
  all_goals (try (have q := hu ‹(!isT l up || !isT l kid || kid == 0 || holdsT l kid up) = false›; obtain ⟨q1, q2, q3⟩ := q))
  all_goals (first | (rw [hp1 ‹_›]; done) | exact q1 | exact q2 | (show Int.toNat _ < _; omega) | skip)
  · rw [mm _ _ (by omega)]
    refine ⟨by omega, by omega, Nat.le_trans q3 (by omega)⟩
  · rw [List.length_set]; exact q2
  · rw [List.length_set]; omega
  · rw [putT, if_neg (by rw [show (!isT l up || !isT l kid || kid == 0 || holdsT l kid up) = false from ‹_›]; decide), mm _ _ (by omega)]
    rfl
  all_goals trace_state
end Go.Vc

namespace Go.Vc
open Go.Proofs
set_option maxRecDepth 10000
theorem popR_pos {q : Int → Bool} {l : List Int} : ∀ n, 0 < n → 0 < popR q l n := by
 intro n
 induction n with
 | zero => intro h; omega
 | succ n ih =>
  intro _
  match n, ih with
  | 0, _ => exact Nat.zero_lt_one
  | k + 1, ih =>
   rw [popR]
   cases q (l.getD (k + 1) 0) with
   | true => simp
   | false => simpa using ih (by omega)
theorem cutR_pos {q : Int → Bool} {l : List Int} : ∀ n, 0 < n → 0 < cutR q l n := by
 intro n
 induction n with
 | zero => intro h; omega
 | succ n ih =>
  intro _
  match n, ih with
  | 0, _ => exact Nat.zero_lt_one
  | k + 1, ih =>
   rw [cutR]
   cases q (l.getD (k + 1) 0) with
   | false => simp
   | true => simpa using ih (by omega)
end Go.Vc

namespace Go.Vc
open Go.Proofs
set_option maxRecDepth 10000
set_option maxHeartbeats 8000000
def tabsL : List UInt8 := [116, 97, 98, 108, 101, 32, 116, 98, 111, 100, 121, 32, 116, 102, 111, 111, 116, 32, 116, 104, 101, 97, 100, 32, 116, 114]
def lastK (t : List NodeD) (up : Int) : Int × Int := (up, ((nd t up).kids.length : Nat))
def outK (t : List NodeD) (op : List Int) (K : Int) : Int × Int :=
 bif decide (K < 0) then lastK t (op.getD 0 0)
 else bif decide ((nd t (op.getD K.toNat 0)).up ≥ 0) then ((nd t (op.getD K.toNat 0)).up, placeT t (op.getD K.toNat 0))
 else lastK t (op.getD (max (K - 1) 0).toNat 0)
def outT (t : List NodeD) (op : List Int) : Int × Int := outK t op (findES t op [116, 97, 98, 108, 101])
theorem outK1 {t : List NodeD} {op : List Int} {K : Int} (e : decide (K < 0) = true) : outK t op K = lastK t (op.getD 0 0) := by unfold outK; rw [e]; rfl
theorem outK2 {t : List NodeD} {op : List Int} {K : Int} (e : decide (K < 0) = false) (e2 : decide ((nd t (op.getD K.toNat 0)).up ≥ 0) = true) : outK t op K = ((nd t (op.getD K.toNat 0)).up, placeT t (op.getD K.toNat 0)) := by unfold outK; rw [e, e2]; rfl
theorem outK3 {t : List NodeD} {op : List Int} {K : Int} (e : decide (K < 0) = false) (e2 : decide ((nd t (op.getD K.toNat 0)).up ≥ 0) = false) : outK t op K = lastK t (op.getD (max (K - 1) 0).toNat 0) := by unfold outK; rw [e, e2]; rfl
def whereT (t : List NodeD) (op : List Int) (fo : Bool) (target : Int) : Int × Int :=
 bif decide (target < 0) || decide (target ≥ (t.length : Int)) then lastK t 0 else bif fo && isE t target tabsL then outT t op else lastK t target
theorem isE_in {t : List NodeD} {i : Int} {nm : List UInt8} (h : isE t i nm = true) : 0 ≤ i ∧ i < t.length := by
 unfold isE at h
 exact isT_iff.1 (Bool.and_eq_true_iff.1 h).1
theorem where1 {t : List NodeD} {op : List Int} {fo : Bool} {g : Int} (e : (decide (g < 0) || decide (g ≥ (t.length : Int))) = true) : whereT t op fo g = lastK t 0 := by unfold whereT; rw [e]; rfl
theorem where2 {t : List NodeD} {op : List Int} {fo : Bool} {g : Int} (e2 : (fo && isE t g tabsL) = true) : whereT t op fo g = outT t op := by
 have h2 := isE_in (Bool.and_eq_true_iff.1 e2).2
 unfold whereT; rw [e2, decide_eq_false (by omega), decide_eq_false (by omega)]; rfl
theorem where3 {t : List NodeD} {op : List Int} {fo : Bool} {g : Int} (e : (decide (g < 0) || decide (g ≥ (t.length : Int))) = false) (e2 : (fo && isE t g tabsL) = false) : whereT t op fo g = lastK t g := by unfold whereT; rw [e, e2]; rfl
def okOp (t : List NodeD) (op : List Int) : Prop := (0 < t.length ∧ op.length ≤ 1000) ∧ ∀ i : Nat, i < op.length → 0 ≤ op.getD i 0 ∧ op.getD i 0 < t.length
theorem findES_lt (t : List NodeD) (op : List Int) (nm : List UInt8) : findES t op nm < op.length := by
 unfold findES
 generalize op.length = n
 induction n with
 | zero => unfold findE; decide
 | succ n ih => unfold findE; cases isE t (op.getD n 0) nm <;> simp only [cond_true, cond_false] <;> omega
instance qLast (t : List NodeD) (op : List Int) (md bk lx fm hd : Int) (fo sk : Bool) (ins : List UInt8) (up : Int) : FnM BB 67 [.loc 0 0, .int .i64 up] [(0, .box [.own 1, .own 2, .nils, .int .i64 md, .int .i64 bk, .int .i64 lx, .int .i64 fm, .int .i64 hd, .bool fo, .bool sk, .str ins]), (1, .own nodeTy t), (2, .own intTy op)] (0 ≤ up ∧ up < t.length) (.tup [.int .i64 (lastK t up).1, .int .i64 (lastK t up).2]) [(0, .box [.own 1, .own 2, .nils, .int .i64 md, .int .i64 bk, .int .i64 lx, .int .i64 fm, .int .i64 hd, .bool fo, .bool sk, .str ins]), (1, .own nodeTy t), (2, .own intTy op)] := by
 refine FnM.intro (N := 17) [0, 1, 4, 5] [(1, [0, 0, 0, 0, 0, 3, 0, 3, 3, 3, 3, 0, 3])] 3 Tryz.call67 Tryz.func67 rfl rfl (by kernel_rfl) (fun hpre => ?_)
 repeat' ((conv => whnf);first|(with_reducible first|rfl|exact absTF|exact absFT)|exact True.intro|intro _|refine And.intro ?_ ?_|refine Fin.mk ?_|refine W1 rfl ?_ ?_|refine W2 rfl ?_ ?_|refine W3 rfl ?_ ?_|refine W4 ?_ ?_|refine W5 rfl ?_ ?_|refine W6 ?_ ?_|refine AppN.mk ?_|refine X1 (W1 rfl ?_ ?_)|refine X1 (W2 rfl ?_ ?_)|refine X2 (W7 rfl ?_ ?_)|refine X3 (W7 rfl ?_ ?_)|refine X4 (W7 rfl ?_ ?_)|refine X5 (W7 rfl ?_ ?_))
 all_goals (try (conv => whnf))
 all_goals (try first|exact obA|refine Ob.mk ?_)
 all_goals (first | rfl | exact hpre | (show Int.toNat _ < _; omega) | trace_state)
instance qOut (t : List NodeD) (op : List Int) (md bk lx fm hd : Int) (fo sk : Bool) (ins : List UInt8) : FnM BB 68 [.loc 0 0] [(0, .box [.own 1, .own 2, .nils, .int .i64 md, .int .i64 bk, .int .i64 lx, .int .i64 fm, .int .i64 hd, .bool fo, .bool sk, .str ins]), (1, .own nodeTy t), (2, .own intTy op)] (okOp t op ∧ shortN t ∧ 0 < op.length) (.tup [.int .i64 (outT t op).1, .int .i64 (outT t op).2]) [(0, .box [.own 1, .own 2, .nils, .int .i64 md, .int .i64 bk, .int .i64 lx, .int .i64 fm, .int .i64 hd, .bool fo, .bool sk, .str ins]), (1, .own nodeTy t), (2, .own intTy op)] := by
 refine FnM.intro (N := 70) [0, 2, 3, 4, 5, 16, 43] [(1, [0, 0, 0, 1, 0, 0, 0, 1, 3, 3]), (4, [0, 0, 0, 0, 1, 0, 0, 0, 1, 0, 1, 1, 3, 3, 3, 3]), (6, [0, 0, 0, 0, 1, 0, 0, 0, 1, 0, 1, 1, 3, 0, 3])] 3 Tryz.call68 Tryz.func68 rfl rfl (by kernel_rfl) (fun hpre => ?_)
 obtain ⟨⟨⟨h0, h0'⟩, h1⟩, h2, h3⟩ := hpre
 have h4 := findES_lt t op [116, 97, 98, 108, 101]
 have h7 := h1 0 h3
 unfold outT
 repeat' ((conv => whnf);first|(with_reducible first|rfl|exact absTF|exact absFT)|exact True.intro|intro _|refine And.intro ?_ ?_|refine Fin.mk ?_|refine W1 rfl ?_ ?_|refine W2 rfl ?_ ?_|refine W3 rfl ?_ ?_|refine W4 ?_ ?_|refine W5 rfl ?_ ?_|refine W6 ?_ ?_|refine AppN.mk ?_|refine X1 (W1 rfl ?_ ?_)|refine X1 (W2 rfl ?_ ?_)|refine X2 (W7 rfl ?_ ?_)|refine X3 (W7 rfl ?_ ?_)|refine X4 (W7 rfl ?_ ?_)|refine X5 (W7 rfl ?_ ?_))
 all_goals (try (conv => whnf))
 all_goals (try first|exact obA|refine Ob.mk ?_)
 all_goals (try (refine ⟨h2, ?_⟩; decide))
 all_goals (generalize findES t op [116, 97, 98, 108, 101] = K at *)
 all_goals (try (have hm : max 0 (K - 1) = max (K - 1) 0 := Int.max_comm _ _))
 all_goals (try simp only [cond_true, hm] at *)
 all_goals (have h5 : ¬ K < 0 → 0 ≤ op.getD K.toNat 0 ∧ op.getD K.toNat 0 < t.length := fun h => h1 _ (by omega))
 all_goals (have h6 : 0 ≤ op.getD (max (K - 1) 0).toNat 0 ∧ op.getD (max (K - 1) 0).toNat 0 < t.length := h1 _ (by omega))
 all_goals (first
  | (rw [outK1 ‹decide (K < 0) = true›]; rfl)
  | (rw [outK2 ‹decide (K < 0) = false› (by assumption)]; rfl)
  | (rw [outK3 ‹decide (K < 0) = false› (by assumption)]; rfl)
  | exact h7
  | exact h6
  | exact h3
  | (have hk := of_decide_eq_false ‹decide (K < 0) = false›; have h5 := h5 hk; first | exact h5 | omega | (show Int.toNat (op.getD K.toNat 0) < _; omega) | (refine ⟨?_, ?_⟩ <;> omega))
  | (unfold InI64; omega)
  | (have hk := of_decide_eq_false ‹decide (K < 0) = false›; unfold InI64; omega)
  | omega
  | (show Int.toNat (op.getD 0 0) < _; omega)
  | (show Int.toNat (op.getD (max (K - 1) 0).toNat 0) < _; omega)
  | trace_state)
instance qWhere (t : List NodeD) (op : List Int) (md bk lx fm hd : Int) (fo sk : Bool) (ins : List UInt8) (g : Int) : FnM BB 32 [.loc 0 0, .int .i64 g] [(0, .box [.own 1, .own 2, .nils, .int .i64 md, .int .i64 bk, .int .i64 lx, .int .i64 fm, .int .i64 hd, .bool fo, .bool sk, .str ins]), (1, .own nodeTy t), (2, .own intTy op)] (okOp t op ∧ shortN t ∧ (isE t g tabsL = true → 0 < op.length)) (.tup [.int .i64 (whereT t op fo g).1, .int .i64 (whereT t op fo g).2]) [(0, .box [.own 1, .own 2, .nils, .int .i64 md, .int .i64 bk, .int .i64 lx, .int .i64 fm, .int .i64 hd, .bool fo, .bool sk, .str ins]), (1, .own nodeTy t), (2, .own intTy op)] := by
 refine FnM.intro (N := 45) [0, 1, 4, 5, 6, 23] [] 3 Tryz.call32 Tryz.func32 rfl rfl (by kernel_rfl) (fun hpre => ?_)
 obtain ⟨h1, h2, h3⟩ := hpre
 have h0 := h1.1.1
 have hg : (decide (g < 0) || decide (g ≥ (t.length : Int))) = false → 0 ≤ g ∧ g < t.length := fun h => by
  rw [Bool.or_eq_false_iff] at h
  have := of_decide_eq_false h.1
  have := of_decide_eq_false h.2
  omega
 repeat' ((conv => whnf);first|(with_reducible first|rfl|exact absTF|exact absFT)|exact True.intro|intro _|refine And.intro ?_ ?_|refine Fin.mk ?_|refine W1 rfl ?_ ?_|refine W2 rfl ?_ ?_|refine W3 rfl ?_ ?_|refine W4 ?_ ?_|refine W5 rfl ?_ ?_|refine W6 ?_ ?_|refine AppN.mk ?_|refine X1 (W1 rfl ?_ ?_)|refine X1 (W2 rfl ?_ ?_)|refine X2 (W7 rfl ?_ ?_)|refine X3 (W7 rfl ?_ ?_)|refine X4 (W7 rfl ?_ ?_)|refine X5 (W7 rfl ?_ ?_))
 all_goals (try (conv => whnf))
 all_goals (try first|exact obA|refine Ob.mk ?_)
 all_goals (first
  | (refine ⟨h2, ?_⟩; decide)
  | (rw [where1 (by assumption)])
  | (rw [where2 (by assumption)])
  | (rw [where3 (by assumption) (by assumption)])
  | exact ⟨h1, h2, h3 (Bool.and_eq_true_iff.1 ‹(fo && isE t g tabsL) = true›).2⟩
  | exact hg (by assumption)
  | trace_state)
instance rWhere (t : List NodeD) (op : List Int) (md bk lx fm hd : Int) (fo sk : Bool) (ins : List UInt8) (g : Int) : FnM BB 82 [.loc 0 0, .int .i64 g] [(0, .box [.own 1, .own 2, .nils, .int .i64 md, .int .i64 bk, .int .i64 lx, .int .i64 fm, .int .i64 hd, .bool fo, .bool sk, .str ins]), (1, .own nodeTy t), (2, .own intTy op)] (okOp t op ∧ shortN t ∧ (isE t g tabsL = true → 0 < op.length)) (.tup [.int .i64 (whereT t op fo g).1, .int .i64 (whereT t op fo g).2]) [(0, .box [.own 1, .own 2, .nils, .int .i64 md, .int .i64 bk, .int .i64 lx, .int .i64 fm, .int .i64 hd, .bool fo, .bool sk, .str ins]), (1, .own nodeTy t), (2, .own intTy op)] := by
  refine FnM.intro (N := 126) [0, 1, 4, 5, 6, 7, 8, 20, 31, 69, 114] [(2, [0, 0, 0, 1, 0, 0, 0, 1, 3, 3]), (4, [0, 0, 0, 1, 1, 1, 0, 0, 0, 0, 1, 0, 0, 0, 1, 1, 1, 1, 1, 1, 1, 1, 3]), (5, [0, 0, 0, 0, 1, 0, 0, 0, 1, 0, 1, 1, 3, 3, 3, 3]), (7, [0, 0, 0, 0, 1, 0, 0, 0, 1, 0, 1, 1, 3, 0, 3]), (9, [0, 0, 0, 0, 0, 3, 0, 3, 3, 3, 3, 0, 3]), (12, [0, 0, 0, 0, 0, 3, 0, 3, 3, 3, 3, 0, 3])] 3 Tryz.call82 Tryz.func82 rfl rfl (by kernel_rfl) (fun hpre => ?_)
  obtain ⟨⟨⟨h0, h0'⟩, h1⟩, h2, h3'⟩ := hpre
  have hg : (decide (g < 0) || decide (g ≥ (t.length : Int))) = false → 0 ≤ g ∧ g < t.length := fun h => by
    rw [Bool.or_eq_false_iff] at h
    have := of_decide_eq_false h.1
    have := of_decide_eq_false h.2
    omega
  have h4 := findES_lt t op [116, 97, 98, 108, 101]
  repeat' ((conv => whnf);first|(with_reducible first|rfl|exact absTF|exact absFT)|exact True.intro|intro _|refine And.intro ?_ ?_|refine Fin.mk ?_|refine W1 rfl ?_ ?_|refine W2 rfl ?_ ?_|refine W3 rfl ?_ ?_|refine W4 ?_ ?_|refine W5 rfl ?_ ?_|refine W6 ?_ ?_|refine AppN.mk ?_|refine X1 (W1 rfl ?_ ?_)|refine X1 (W2 rfl ?_ ?_)|refine X2 (W7 rfl ?_ ?_)|refine X3 (W7 rfl ?_ ?_)|refine X4 (W7 rfl ?_ ?_)|refine X5 (W7 rfl ?_ ?_))
  all_goals (try (conv => whnf))
  all_goals (try first|exact obA|refine Ob.mk ?_)
  all_goals (try (first
    | (rw [where1 (by assumption)]; rfl)
    | (rw [where3 (by assumption) (by assumption)]; rfl)
    | exact hg (by assumption)
    | (have := hg (by assumption); omega)))
  all_goals (try (have hs : (fo && isE t g tabsL) = true := by assumption
                  rw [where2 hs]
                  unfold outT))
  all_goals (try (have h3 := h3' (Bool.and_eq_true_iff.1 ‹(fo && isE t g tabsL) = true›).2; have h7 := h1 0 h3))
  all_goals (try (refine ⟨h2, ?_⟩; decide))
  all_goals (generalize findES t op [116, 97, 98, 108, 101] = K at *)
  all_goals (try (have hm : max 0 (K - 1) = max (K - 1) 0 := Int.max_comm _ _))
  all_goals (try simp only [cond_true, hm] at *)
  all_goals (have h5 : ¬ K < 0 → 0 ≤ op.getD K.toNat 0 ∧ op.getD K.toNat 0 < t.length := fun h => h1 _ (by omega))
  all_goals (have h6 : 0 ≤ op.getD (max (K - 1) 0).toNat 0 ∧ op.getD (max (K - 1) 0).toNat 0 < t.length := h1 _ (by omega))
  all_goals (first
    | (rw [outK1 ‹decide (K < 0) = true›]; rfl)
    | (rw [outK2 ‹decide (K < 0) = false› (by assumption)]; rfl)
    | (rw [outK3 ‹decide (K < 0) = false› (by assumption)]; rfl)
    | exact h7
    | exact h6
    | exact h3
    | (have hk := of_decide_eq_false ‹decide (K < 0) = false›; have h5 := h5 hk; first | exact h5 | omega | (show Int.toNat (op.getD K.toNat 0) < _; omega) | (refine ⟨?_, ?_⟩ <;> omega))
    | (unfold InI64; omega)
    | (have hk := of_decide_eq_false ‹decide (K < 0) = false›; unfold InI64; omega)
    | omega
    | (show Int.toNat (op.getD 0 0) < _; omega)
    | (show Int.toNat (op.getD (max (K - 1) 0).toNat 0) < _; omega)
    | trace_state)
  all_goals trace_state
end Go.Vc

namespace Go.Vc
open Go.Proofs
set_option maxRecDepth 10000
abbrev Uf (l : List NodeD) (i : Int) : Int := (nd l i).up
abbrev Kf (l : List NodeD) (i : Int) : List Int := (nd l i).kids
def TiL (l : List NodeD) : Prop := Ti l.length (Uf l) (Kf l)
theorem nd_set6 {l : List NodeD} {k i : Int} {n : NodeD} (hk : okI l.length k) (hi : 0 ≤ i) : nd (l.set k.toNat n) i = if i = k then n else nd l i := by
 unfold nd
 rw [getD_set]
 by_cases e : i = k
 ·subst e; rw [if_pos rfl, if_pos ⟨rfl, by have := hk.2; have := hk.1; omega⟩]
 ·rw [if_neg e, if_neg (fun q => e (by have := hk.1; have := q.1; omega))]
theorem okI_isT {l : List NodeD} {i : Int} : isT l i = true ↔ okI l.length i := isT_iff
theorem ti_root : TiL [rootN] := by
 refine ⟨by decide, rfl, fun i hi k hk => ?_, fun i hi => ?_, fun _ => 0, fun i hi hu => ?_⟩
 all_goals (have e : i = 0 := by have h1 := hi.1; have h2 : i < 1 := hi.2; omega)
 all_goals subst e
 ·cases hk
 ·exact .inl rfl
 ·exact absurd rfl hu
theorem ti_add {l : List NodeD} (n : NodeD) (h : TiL l) : TiL (addT l n) := by
 have hl : (addT l n).length = l.length + 1 := by simp [addT]
 have ho : ∀ i, okI l.length i → nd (addT l n) i = nd l i := fun i hi => by
  unfold nd addT
  simp only [List.getD]
  rw [List.getElem?_append_left (by have := hi.1; have := hi.2; omega)]
 have hn : nd (addT l n) (l.length : Int) = (n.1, n.2.1, n.2.2.1, n.2.2.2.1, n.2.2.2.2.1, -1, []) := by
  unfold nd addT
  simp only [List.getD, Int.toNat_natCast]
  rw [List.getElem?_append_right (Nat.le_refl _), Nat.sub_self]; rfl
 unfold TiL
 rw [hl]
 exact Ti.add h (fun i hi => by show (nd (addT l n) i).up = _; rw [ho i hi]) (fun i hi => by show (nd (addT l n) i).kids = _; rw [ho i hi]) (by show (nd (addT l n) (l.length : Int)).up = _; rw [hn]) (by show (nd (addT l n) (l.length : Int)).kids = _; rw [hn])
theorem count_mid (l : List Int) (a : Nat) (x : Int) (h : a < l.length) (k : Int) : (l.take a ++ l.drop (a + 1)).count k + (if k = l.getD a 0 then 1 else 0) = l.count k := by
 have e : l = l.take a ++ l.getD a 0 :: l.drop (a + 1) := by
  have : l.getD a 0 = l[a] := by simp [List.getD, List.getElem?_eq_getElem h]
  rw [this, ← List.drop_eq_getElem_cons h, List.take_append_drop]
 generalize hx : l.getD a 0 = y at *
 have e2 : l.count k = (l.take a ++ y :: l.drop (a + 1)).count k := by rw [← e]
 rw [e2, List.count_append, List.count_append, List.count_cons]
 by_cases q : k = y
 ·subst q; simp; omega
 ·rw [if_neg q, if_neg (by simp; exact fun h => q h.symm)]; omega
theorem cut_facts {l : List NodeD} (h : TiL l) {kid : Int} (hk : okI l.length kid) :
    (∀ i, okI l.length i → Uf (cutT l kid) i = if i = kid then -1 else Uf l i) ∧
    (Uf l kid = -1 → ∀ i, okI l.length i → Kf (cutT l kid) i = Kf l i) ∧
    (Uf l kid ≠ -1 → (∀ i, okI l.length i → i ≠ Uf l kid → Kf (cutT l kid) i = Kf l i) ∧ ∀ k, (Kf (cutT l kid) (Uf l kid)).count k + (if k = kid then 1 else 0) = (Kf l (Uf l kid)).count k) := by
  have hkt := okI_isT.2 hk
  by_cases hu : Uf l kid = -1
  · have hp : placeT l kid = -1 := by
      unfold placeT
      rw [if_neg]
      rw [Bool.and_eq_true]
      intro q
      have := (isT_iff.1 q.2).1
      have hu' : (nd l kid).up = -1 := hu
      omega
    have hA : cutA l kid = l := by unfold cutA; rw [if_neg (by rw [hp]; decide)]
    by_cases h0 : kid = 0
    · have e : cutT l kid = l := by rw [cutT_off (fun q => q.2 h0), hA]
      rw [e]
      refine ⟨fun i hi => ?_, fun _ i _ => rfl, fun q => absurd hu q⟩
      split
      · rename_i e'; rw [e']; exact hu
      · rfl
    · have e : cutT l kid = l.set kid.toNat (setUp (nd l kid) (-1)) := by rw [cutT_on ⟨hkt, h0⟩, hA]
      rw [e]
      refine ⟨fun i hi => ?_, fun _ i hi => ?_, fun q => absurd hu q⟩
      · show (nd (l.set kid.toNat (setUp (nd l kid) (-1))) i).up = _
        rw [nd_set6 hk hi.1]
        split <;> rfl
      · show (nd (l.set kid.toNat (setUp (nd l kid) (-1))) i).kids = _
        rw [nd_set6 hk hi.1]
        split
        · rename_i e'; rw [e']; rfl
        · rfl
  · have h0 : kid ≠ 0 := fun q => hu (by rw [q]; exact h.root)
    obtain ⟨hp, hc⟩ := (h.up kid hk).resolve_left hu
    have hm : (Kf l (Uf l kid)).contains kid = true := by
      rw [List.contains_iff_mem]; exact List.count_pos_iff.1 (by omega)
    have hpl : placeT l kid = ((Kf l (Uf l kid)).idxOf kid : Int) := by
      unfold placeT
      rw [hkt, show isT l (nd l kid).up = true from okI_isT.2 hp]
      show (if (true && true) = true then ixOf (Kf l (Uf l kid)) kid else -1) = _
      rw [Bool.and_self, if_pos rfl, ixOf, if_pos hm]
    have hlt : (Kf l (Uf l kid)).idxOf kid < (Kf l (Uf l kid)).length := List.idxOf_lt_length_of_mem (List.contains_iff_mem.1 hm)
    have hA : cutA l kid = l.set (Uf l kid).toNat (setKids (nd l (Uf l kid)) ((Kf l (Uf l kid)).take ((Kf l (Uf l kid)).idxOf kid) ++ (Kf l (Uf l kid)).drop ((Kf l (Uf l kid)).idxOf kid + 1))) := by
      unfold cutA
      rw [if_pos (by rw [hpl]; omega), hpl, Int.toNat_natCast, show (((Kf l (Uf l kid)).idxOf kid : Int) + 1).toNat = (Kf l (Uf l kid)).idxOf kid + 1 by omega]
    have hcm := count_mid (Kf l (Uf l kid)) _ kid hlt
    have hget : (Kf l (Uf l kid)).getD ((Kf l (Uf l kid)).idxOf kid) 0 = kid := by
      simp [List.getD, List.getElem?_eq_getElem hlt]
    rw [hget] at hcm
    generalize hr : (Kf l (Uf l kid)).take ((Kf l (Uf l kid)).idxOf kid) ++ (Kf l (Uf l kid)).drop ((Kf l (Uf l kid)).idxOf kid + 1) = R at *
    have hlA : (cutA l kid).length = l.length := cutA_len
    have hndA : ∀ i, 0 ≤ i → nd (cutA l kid) i = if i = Uf l kid then setKids (nd l (Uf l kid)) R else nd l i := fun i hi => by rw [hA, nd_set6 hp hi]
    have hne : kid ≠ Uf l kid := fun q => by
      obtain ⟨d, hd⟩ := h.dep
      have := hd kid hk hu
      rw [← q] at this; omega
    have hnd : ∀ i, 0 ≤ i → nd (cutT l kid) i = if i = kid then setUp (nd l kid) (-1) else if i = Uf l kid then setKids (nd l (Uf l kid)) R else nd l i := fun i hi => by
      rw [cutT_on ⟨hkt, h0⟩, nd_set6 (by rw [hlA]; exact hk) hi]
      split
      · rw [hndA kid hk.1, if_neg hne]
      · exact hndA i hi
    refine ⟨fun i hi => ?_, fun q => absurd q hu, fun _ => ⟨fun i hi e => ?_, fun k => ?_⟩⟩
    · show (nd (cutT l kid) i).up = _
      rw [hnd i hi.1]
      split
      · rfl
      · split
        · rename_i e; rw [e]; rfl
        · rfl
    · show (nd (cutT l kid) i).kids = _
      rw [hnd i hi.1]
      split
      · rename_i e'; rw [e']; rfl
      · first | rfl | rw [if_neg e]
    · show (nd (cutT l kid) (Uf l kid)).kids.count k + _ = _
      rw [hnd _ hp.1, if_neg (fun q => hne q.symm), if_pos rfl]
      exact hcm k
theorem ti_cut {l : List NodeD} (h : TiL l) (kid : Int) : TiL (cutT l kid) := by
 by_cases hk : okI l.length kid
 ·obtain ⟨f1, f2, f3⟩ := cut_facts h hk
  unfold TiL
  rw [cutT_len]
  by_cases hu : Uf l kid = -1
  ·exact Ti.congr h (fun i hi => by rw [f1 i hi]; split; rename_i e; rw [e, hu]; rfl) (f2 hu)
  ·exact Ti.cut h hk hu f1 (f3 hu).1 (f3 hu).2
 ·have hkt : ¬ isT l kid = true := fun q => hk (okI_isT.1 q)
  have e : cutT l kid = l := by
   rw [cutT_off (fun q => hkt q.1)]
   unfold cutA
   rw [if_neg]
   intro q
   exact hkt (place_nonneg q).1
  rw [e]; exact h
theorem holds_of {l : List NodeD} (h : TiL l) {d : Int → Nat} (hd : ∀ i, okI l.length i → Uf l i ≠ -1 → d (Uf l i) < d i) {r x : Int} (s : Ds (Uf l) r x) : okI l.length x → ∀ f, d x < f → holdsF f l r x = true := by
 induction s with
 | here =>
  intro hx f hf
  obtain ⟨f, rfl⟩ : ∃ g, f = g + 1 := ⟨f - 1, by omega⟩
  rw [holdsF, if_pos (okI_isT.2 hx), if_pos rfl]
 | @up x hu _ ih =>
  intro hx f hf
  obtain ⟨f, rfl⟩ : ∃ g, f = g + 1 := ⟨f - 1, by omega⟩
  rw [holdsF, if_pos (okI_isT.2 hx)]
  split
  ·rfl
  ·have := hd x hx hu
   exact ih ((h.up x hx).resolve_left hu).1 f (by omega)
theorem of_holds {l : List NodeD} {r : Int} : ∀ (f : Nat) (x : Int), holdsF f l r x = true → Ds (Uf l) r x
 | 0, x, h => by cases h
 | f + 1, x, h => by
  rw [holdsF] at h
  split at h
  ·split at h
   ·rename_i e; rw [e]; exact .here
   ·have hs := of_holds f _ h
    refine .up (fun q => ?_) hs
    have h2 : holdsF f l r (-1) = true := by rw [← q]; exact h
    cases f with
    | zero => cases h2
    | succ f => rw [holdsF, if_neg (by rw [isT]; simp)] at h2; cases h2
  ·cases h
theorem no_Ds {l : List NodeD} (h : TiL l) {r x : Int} (hr : okI l.length r) (hx : okI l.length x) (hh : holdsT l r x = false) : ¬ Ds (Uf l) r x := fun s => by
 obtain ⟨d, hb, hd⟩ := Ti.rank h
 have := holds_of h hd s hx (l.length + 1) (by have := hb x hx; omega)
 unfold holdsT at hh
 rw [okI_isT.2 hr, this] at hh
 cases hh
theorem ti_put {l : List NodeD} (h : TiL l) (up at_ kid : Int) : TiL (putT l up at_ kid) := by
 unfold putT
 split
 ·exact h
 rename_i hg
 have hg : (!isT l up || !isT l kid || kid == 0 || holdsT l kid up) = false := by simpa using hg
 simp only [Bool.or_eq_false_iff, Bool.not_eq_false', beq_eq_false_iff_ne] at hg
 obtain ⟨⟨⟨g1, g2⟩, g3⟩, g4⟩ := hg
 have hu := okI_isT.1 g1
 have hk := okI_isT.1 g2
 have hc := ti_cut h kid
 obtain ⟨f1, f2, f3⟩ := cut_facts h hk
 have hcl : (cutT l kid).length = l.length := cutT_len
 have hne : kid ≠ up := fun q => by
  unfold holdsT at g4
  rw [g2, ← q, holdsF, if_pos g2, if_pos rfl] at g4
  cases g4
 have hnd := no_Ds h hk hu g4
 have hsub : ∀ x, Ds (Uf (cutT l kid)) kid x → okI l.length x → Ds (Uf l) kid x := fun x s => by
  induction s with
  | here => intro _; exact .here
  | @up x hx _ ih =>
   intro ho
   have e := f1 x ho
   by_cases q : x = kid
   ·rw [q]; exact .here
   ·rw [if_neg q] at e
    rw [e] at hx ih
    exact .up hx (ih ((h.up x ho).resolve_left hx).1)
 simp only
 generalize hi : min (max at_ 0) (((nd (cutT l kid) up).kids.length : Int)) = ii
 have hku : okI (cutT l kid).length up := by rw [hcl]; exact hu
 have hkk : okI (cutT l kid).length kid := by rw [hcl]; exact hk
 have h2 : ∀ i, 0 ≤ i → nd ((cutT l kid).set up.toNat (setKids (nd (cutT l kid) up) ((nd (cutT l kid) up).kids.take ii.toNat ++ kid :: (nd (cutT l kid) up).kids.drop ii.toNat))) i = if i = up then (setKids (nd (cutT l kid) up) ((nd (cutT l kid) up).kids.take ii.toNat ++ kid :: (nd (cutT l kid) up).kids.drop ii.toNat)) else nd (cutT l kid) i := fun i hi => nd_set6 hku hi
 generalize hC2 : (cutT l kid).set up.toNat (setKids (nd (cutT l kid) up) ((nd (cutT l kid) up).kids.take ii.toNat ++ kid :: (nd (cutT l kid) up).kids.drop ii.toNat)) = c2 at *
 have hl2 : c2.length = (cutT l kid).length := by rw [← hC2, List.length_set]
 have h3 : ∀ i, 0 ≤ i → nd (c2.set kid.toNat (setUp (nd c2 kid) up)) i = if i = kid then setUp (nd c2 kid) up else nd c2 i := fun i hi => nd_set6 (by rw [hl2]; exact hkk) hi
 unfold TiL
 rw [List.length_set, hl2]
 refine Ti.put hc hkk g3 hku (by rw [f1 kid hk, if_pos rfl]) (fun s => hnd (hsub up s hu)) (fun i hi => ?_) (fun i hi e => ?_) (fun k => ?_)
 ·show (nd (c2.set kid.toNat (setUp (nd c2 kid) up)) i).up = _
  rw [h3 i hi.1]
  split
  ·rfl
  ·rw [h2 i hi.1]
   split
   ·rename_i e; rw [e]; rfl
   ·rfl
 ·show (nd (c2.set kid.toNat (setUp (nd c2 kid) up)) i).kids = _
  rw [h3 i hi.1]
  split
  ·rename_i e'
   show (nd c2 kid).kids = _
   rw [h2 kid hk.1, if_neg hne, e']
  ·rw [h2 i hi.1, if_neg e]
 ·show (nd (c2.set kid.toNat (setUp (nd c2 kid) up)) up).kids.count k = _
  rw [h3 up hu.1, if_neg (fun q => hne q.symm), h2 up hu.1, if_pos rfl]
  show ((nd (cutT l kid) up).kids.take ii.toNat ++ kid :: (nd (cutT l kid) up).kids.drop ii.toNat).count k = (nd (cutT l kid) up).kids.count k + _
  have e : (nd (cutT l kid) up).kids = (nd (cutT l kid) up).kids.take ii.toNat ++ (nd (cutT l kid) up).kids.drop ii.toNat := (List.take_append_drop _ _).symm
  generalize (nd (cutT l kid) up).kids.take ii.toNat = A at *
  generalize (nd (cutT l kid) up).kids.drop ii.toNat = B at *
  rw [e, List.count_append, List.count_append, List.count_cons]
  by_cases q : k = kid
  ·subst q; simp; omega
  ·rw [if_neg q, if_neg (by simp; exact fun h => q h.symm)]; omega
end Go.Vc

namespace Go.Vc
open Go.Proofs
set_option maxRecDepth 10000
set_option maxHeartbeats 8000000
theorem small_add {l : List NodeD} {n : NodeD} (h : smallT l = true) (hl : l.length ≤ 100) (hn : n.2.2.2.1.length ≤ 1000) : smallT (addT l n) = true := by
 unfold smallT addT at *
 simp only [Bool.and_eq_true, decide_eq_true_eq, List.all_append, List.all_cons, List.all_nil, List.length_append, List.length_cons, List.length_nil, Bool.and_true] at *
 exact ⟨by omega, h.2, hn, by show (0 : Nat) ≤ 1000; omega⟩
def putNew (t : List NodeD) (w : Int × Int) (n : NodeD) : List NodeD := putT (addT t n) w.1 w.2 t.length
abbrev wT (t : List NodeD) (op : List Int) (fo : Bool) : Int × Int := whereT t op fo (topS op)
def elemN (sp : Int) (nm : List UInt8) (at_ : List AttrD) : NodeD := (1, sp, nm, at_, [], 0, [])
def dataN (k : Int) (d : List UInt8) : NodeD := (k, 0, [], [], d, 0, [])
def elemT (t : List NodeD) (op : List Int) (fo : Bool) (sp : Int) (nm : List UInt8) (at_ : List AttrD) : List NodeD := putNew t (wT t op fo) (elemN sp nm at_)
def noteT (t : List NodeD) (op : List Int) (fo : Bool) (d : List UInt8) : List NodeD := putNew t (wT t op fo) (dataN 3 d)
def setData (n : NodeD) (d : List UInt8) : NodeD := (n.1, n.2.1, n.2.2.1, n.2.2.2.1, d, n.2.2.2.2.2.1, n.2.2.2.2.2.2)
def preK (t : List NodeD) (w : Int × Int) : Int := (nd t w.1).kids.getD (w.2 - 1).toNat 0
def charsW (t : List NodeD) (w : Int × Int) (d : List UInt8) : List NodeD :=
 bif d == [] || w.1 == 0 then t
 else bif decide (w.2 > 0) && (nd t (preK t w)).1 == 2 then t.set (preK t w).toNat (setData (nd t (preK t w)) ((nd t (preK t w)).2.2.2.2.1 ++ d))
 else putNew t w (dataN 2 d)
def charsT (t : List NodeD) (op : List Int) (fo : Bool) (d : List UInt8) : List NodeD := charsW t (wT t op fo) d
theorem charsW1 {t : List NodeD} {w : Int × Int} {d : List UInt8} (h : (d == [] || w.1 == 0) = true) : charsW t w d = t := by unfold charsW; rw [h]; rfl
theorem charsW2 {t : List NodeD} {w : Int × Int} {d : List UInt8} (h : (d == [] || w.1 == 0) = false) (h1 : decide (w.2 > 0) = true) (h2 : ((nd t (preK t w)).1 == 2) = true) : charsW t w d = t.set (preK t w).toNat (setData (nd t (preK t w)) ((nd t (preK t w)).2.2.2.2.1 ++ d)) := by unfold charsW; rw [h, h1, h2]; rfl
theorem charsW3 {t : List NodeD} {w : Int × Int} {d : List UInt8} (h : (d == [] || w.1 == 0) = false) (h1 : decide (w.2 > 0) = true) (h2 : ((nd t (preK t w)).1 == 2) = false) : charsW t w d = putNew t w (dataN 2 d) := by unfold charsW; rw [h, h1, h2]; rfl
theorem charsW4 {t : List NodeD} {w : Int × Int} {d : List UInt8} (h : (d == [] || w.1 == 0) = false) (h1 : decide (w.2 > 0) = false) : charsW t w d = putNew t w (dataN 2 d) := by unfold charsW; rw [h, h1]; rfl
def okW (t : List NodeD) (w : Int × Int) : Prop := (0 ≤ w.1 ∧ w.1 < t.length) ∧ (-1 ≤ w.2 ∧ w.2 ≤ ((nd t w.1).kids.length : Nat)) ∧ (w.2 > 0 → 0 ≤ preK t w ∧ preK t w < t.length)
theorem okOp_top {t : List NodeD} {op : List Int} (nm : List UInt8) (h : isE t (topS op) nm = true) : 0 < op.length := by
 have h2 := isE_in h
 unfold topS at h2
 by_cases e : op.length = 0
 ·rw [decide_eq_true e] at h2; have h3 := h2.1; simp at h3
 ·omega
def shortD (t : List NodeD) : Prop := ∀ i : Int, (nd t i).2.2.2.2.1.length ≤ 100000
theorem small_kids {t : List NodeD} (h : smallT t = true) {i : Int} (hi : 0 ≤ i ∧ i < t.length) : (nd t i).kids.length ≤ 1000 := (small_at h _ (isT_iff.2 hi)).2
theorem mem_getDi {l : List Int} {i : Nat} (h : i < l.length) : l.getD i 0 ∈ l := by
 have e : l.getD i 0 = l[i] := by simp [List.getD, h]
 rw [e]; exact List.getElem_mem _
theorem okW_last {t : List NodeD} (h : TiL t) {up : Int} (hu : 0 ≤ up ∧ up < t.length) : okW t (lastK t up) := by
 refine ⟨hu, ⟨by unfold lastK; simp only; omega, Int.le_refl _⟩, fun hp => ?_⟩
 unfold preK lastK at *
 simp only at *
 have hm : (nd t up).kids.getD (((nd t up).kids.length : Int) - 1).toNat 0 ∈ (nd t up).kids := mem_getDi (by omega)
 exact (h.kid up hu _ hm).1
theorem okW_place {t : List NodeD} (h : TiL t) {i : Int} (hi : 0 ≤ i ∧ i < t.length) (hu : (nd t i).up ≥ 0) : okW t ((nd t i).up, placeT t i) := by
 have hU : okI t.length (nd t i).up := by
  rcases h.up i hi with q | q
  ·have : (nd t i).up = -1 := q; omega
  ·exact q.1
 have hp : placeT t i ≤ ((nd t (nd t i).up).kids.length : Nat) := by
  by_cases e : placeT t i ≥ 0
  ·exact Int.le_of_lt (place_nonneg e).2.2
  ·omega
 refine ⟨hU, ⟨?_, hp⟩, fun hq => ?_⟩
 ·show -1 ≤ placeT t i
  unfold placeT
  split
  ·unfold ixOf; split <;> omega
  ·omega
 ·unfold preK at *
  simp only at *
  have hm : (nd t (nd t i).up).kids.getD (placeT t i - 1).toNat 0 ∈ (nd t (nd t i).up).kids := mem_getDi (by omega)
  exact (h.kid _ hU _ hm).1
theorem okW_of {t : List NodeD} {op : List Int} {fo : Bool} (h : TiL t) (ho : okOp t op) : okW t (wT t op fo) := by
 unfold wT whereT
 cases e : (decide (topS op < 0) || decide (topS op ≥ (t.length : Int)))
 ·rw [Bool.or_eq_false_iff] at e
  have e1 := of_decide_eq_false e.1
  have e2 := of_decide_eq_false e.2
  simp only [cond_false]
  cases e3 : (fo && isE t (topS op) tabsL)
  ·exact okW_last h ⟨by omega, by omega⟩
  ·have hne := okOp_top _ (Bool.and_eq_true_iff.1 e3).2
   simp only [cond_true]
   unfold outT outK
   have h4 := findES_lt t op [116, 97, 98, 108, 101]
   generalize findES t op [116, 97, 98, 108, 101] = K at *
   cases e4 : decide (K < 0)
   ·have e5 := of_decide_eq_false e4
    simp only [cond_false]
    cases e6 : decide ((nd t (op.getD K.toNat 0)).up ≥ 0)
    ·exact okW_last h (ho.2 _ (by omega))
    ·exact okW_place h (ho.2 _ (by omega)) (of_decide_eq_true e6)
   ·exact okW_last h (ho.2 0 hne)
 ·exact okW_last h ⟨by omega, by have := ho.1.1; omega⟩
instance qAddR (op : List Int) (md bk lx fm hd : Int) (fo sk : Bool) (ins : List UInt8) (l : List NodeD) (k s : Int) (nm : List UInt8) (at_ : List AttrD) (d : List UInt8) (up : Int) :
  FnM BB 34 [.loc 0 0, .agg [.int .i64 k, .int .i64 s, .str nm, .rd attrTy at_, .str d, .int .i64 up, .nils]] [(0, .box [.own 1, .own 2, .nils, .int .i64 md, .int .i64 bk, .int .i64 lx, .int .i64 fm, .int .i64 hd, .bool fo, .bool sk, .str ins]), (1, .own nodeTy l), (2, .own intTy op)] (l.length ≤ 100000 ∧ (at_ : List AttrD).length ≤ 100000)
   (.int .i64 l.length) [(0, .box [.own 1, .own 2, .nils, .int .i64 md, .int .i64 bk, .int .i64 lx, .int .i64 fm, .int .i64 hd, .bool fo, .bool sk, .str ins]), (1, .own nodeTy (addT l (k, s, nm, at_, d, up, []))), (2, .own intTy op)] :=
 FnM.wk (qsf12 op md bk lx fm hd fo sk ins l k s nm at_ d up []) fun r β vs h => by
  refine ⟨h.1, fun i sv v h1 h2 => ?_⟩
  match i, h1 with
  | 0, h1 => cases h1; exact h.2 0 _ v rfl h2
  | 1, h1 =>
   cases h1
   obtain ⟨cs, rfl, hc⟩ := (h.2 1 _ v rfl h2).aggL_inv
   refine .aggL ⟨hc.1, fun j sv u q1 q2 => ?_⟩
   match j, q1 with
   | 0, q1 => cases q1; exact hc.2 0 _ u rfl q2
   | 1, q1 => cases q1; exact hc.2 1 _ u rfl q2
   | 2, q1 => cases q1; exact hc.2 2 _ u rfl q2
   | 3, q1 => cases q1; exact hc.2 3 _ u rfl q2
   | 4, q1 => cases q1; exact hc.2 4 _ u rfl q2
   | 5, q1 => cases q1; exact hc.2 5 _ u rfl q2
   | 6, q1 => cases q1; exact nils_rd (hc.2 6 _ u rfl q2)
instance qAddN (op : List Int) (md bk lx fm hd : Int) (fo sk : Bool) (ins : List UInt8) (l : List NodeD) (k s : Int) (nm : List UInt8)  (d : List UInt8) (up : Int) :
  FnM BB 34 [.loc 0 0, .agg [.int .i64 k, .int .i64 s, .str nm, .nils, .str d, .int .i64 up, .nils]] [(0, .box [.own 1, .own 2, .nils, .int .i64 md, .int .i64 bk, .int .i64 lx, .int .i64 fm, .int .i64 hd, .bool fo, .bool sk, .str ins]), (1, .own nodeTy l), (2, .own intTy op)] (l.length ≤ 100000 ∧ ([] : List AttrD).length ≤ 100000)
   (.int .i64 l.length) [(0, .box [.own 1, .own 2, .nils, .int .i64 md, .int .i64 bk, .int .i64 lx, .int .i64 fm, .int .i64 hd, .bool fo, .bool sk, .str ins]), (1, .own nodeTy (addT l (k, s, nm, [], d, up, []))), (2, .own intTy op)] :=
 FnM.wk (qsf12 op md bk lx fm hd fo sk ins l k s nm [] d up []) fun r β vs h => by
  refine ⟨h.1, fun i sv v h1 h2 => ?_⟩
  match i, h1 with
  | 0, h1 => cases h1; exact h.2 0 _ v rfl h2
  | 1, h1 =>
   cases h1
   obtain ⟨cs, rfl, hc⟩ := (h.2 1 _ v rfl h2).aggL_inv
   refine .aggL ⟨hc.1, fun j sv u q1 q2 => ?_⟩
   match j, q1 with
   | 0, q1 => cases q1; exact hc.2 0 _ u rfl q2
   | 1, q1 => cases q1; exact hc.2 1 _ u rfl q2
   | 2, q1 => cases q1; exact hc.2 2 _ u rfl q2
   | 3, q1 => cases q1; exact nils_rd (hc.2 3 _ u rfl q2)
   | 4, q1 => cases q1; exact hc.2 4 _ u rfl q2
   | 5, q1 => cases q1; exact hc.2 5 _ u rfl q2
   | 6, q1 => cases q1; exact nils_rd (hc.2 6 _ u rfl q2)
instance rAddR (op : List Int) (md bk lx fm hd : Int) (fo sk : Bool) (ins : List UInt8) (l : List NodeD) (k s : Int) (nm : List UInt8) (at_ : List AttrD) (d : List UInt8) (up : Int) :
  FnM BB 39 [.loc 0 0, .agg [.int .i64 k, .int .i64 s, .str nm, .rd attrTy at_, .str d, .int .i64 up, .nils]] [(0, .box [.own 1, .own 2, .nils, .int .i64 md, .int .i64 bk, .int .i64 lx, .int .i64 fm, .int .i64 hd, .bool fo, .bool sk, .str ins]), (1, .own nodeTy l), (2, .own intTy op)] (l.length ≤ 100000 ∧ (at_ : List AttrD).length ≤ 100000)
   (.int .i64 l.length) [(0, .box [.own 1, .own 2, .nils, .int .i64 md, .int .i64 bk, .int .i64 lx, .int .i64 fm, .int .i64 hd, .bool fo, .bool sk, .str ins]), (1, .own nodeTy (addT l (k, s, nm, at_, d, up, []))), (2, .own intTy op)] :=
 FnM.wk (ohAdd op md bk lx fm hd fo sk ins l k s nm at_ d up []) fun r β vs h => by
  refine ⟨h.1, fun i sv v h1 h2 => ?_⟩
  match i, h1 with
  | 0, h1 => cases h1; exact h.2 0 _ v rfl h2
  | 1, h1 =>
   cases h1
   obtain ⟨cs, rfl, hc⟩ := (h.2 1 _ v rfl h2).aggL_inv
   refine .aggL ⟨hc.1, fun j sv u q1 q2 => ?_⟩
   match j, q1 with
   | 0, q1 => cases q1; exact hc.2 0 _ u rfl q2
   | 1, q1 => cases q1; exact hc.2 1 _ u rfl q2
   | 2, q1 => cases q1; exact hc.2 2 _ u rfl q2
   | 3, q1 => cases q1; exact hc.2 3 _ u rfl q2
   | 4, q1 => cases q1; exact hc.2 4 _ u rfl q2
   | 5, q1 => cases q1; exact hc.2 5 _ u rfl q2
   | 6, q1 => cases q1; exact nils_rd (hc.2 6 _ u rfl q2)
instance rAddN (op : List Int) (md bk lx fm hd : Int) (fo sk : Bool) (ins : List UInt8) (l : List NodeD) (k s : Int) (nm : List UInt8)  (d : List UInt8) (up : Int) :
  FnM BB 39 [.loc 0 0, .agg [.int .i64 k, .int .i64 s, .str nm, .nils, .str d, .int .i64 up, .nils]] [(0, .box [.own 1, .own 2, .nils, .int .i64 md, .int .i64 bk, .int .i64 lx, .int .i64 fm, .int .i64 hd, .bool fo, .bool sk, .str ins]), (1, .own nodeTy l), (2, .own intTy op)] (l.length ≤ 100000 ∧ ([] : List AttrD).length ≤ 100000)
   (.int .i64 l.length) [(0, .box [.own 1, .own 2, .nils, .int .i64 md, .int .i64 bk, .int .i64 lx, .int .i64 fm, .int .i64 hd, .bool fo, .bool sk, .str ins]), (1, .own nodeTy (addT l (k, s, nm, [], d, up, []))), (2, .own intTy op)] :=
 FnM.wk (ohAdd op md bk lx fm hd fo sk ins l k s nm [] d up []) fun r β vs h => by
  refine ⟨h.1, fun i sv v h1 h2 => ?_⟩
  match i, h1 with
  | 0, h1 => cases h1; exact h.2 0 _ v rfl h2
  | 1, h1 =>
   cases h1
   obtain ⟨cs, rfl, hc⟩ := (h.2 1 _ v rfl h2).aggL_inv
   refine .aggL ⟨hc.1, fun j sv u q1 q2 => ?_⟩
   match j, q1 with
   | 0, q1 => cases q1; exact hc.2 0 _ u rfl q2
   | 1, q1 => cases q1; exact hc.2 1 _ u rfl q2
   | 2, q1 => cases q1; exact hc.2 2 _ u rfl q2
   | 3, q1 => cases q1; exact nils_rd (hc.2 3 _ u rfl q2)
   | 4, q1 => cases q1; exact hc.2 4 _ u rfl q2
   | 5, q1 => cases q1; exact hc.2 5 _ u rfl q2
   | 6, q1 => cases q1; exact nils_rd (hc.2 6 _ u rfl q2)
instance qPutR (t : List NodeD) (op : List Int) (md bk lx fm hd : Int) (fo sk : Bool) (ins : List UInt8) (up a k s u : Int) (nm d : List UInt8) (at_ : List AttrD) : FnM BB 66 [.loc 0 0, .int .i64 up, .int .i64 a, .agg [.int .i64 k, .int .i64 s, .str nm, .rd attrTy at_, .str d, .int .i64 u, .nils]] [(0, .box [.own 1, .own 2, .nils, .int .i64 md, .int .i64 bk, .int .i64 lx, .int .i64 fm, .int .i64 hd, .bool fo, .bool sk, .str ins]), (1, .own nodeTy t), (2, .own intTy op)] (smallT t = true ∧ t.length ≤ 100 ∧ at_.length ≤ 1000) (.int .i64 t.length) [(0, .box [.own 1, .own 2, .nils, .int .i64 md, .int .i64 bk, .int .i64 lx, .int .i64 fm, .int .i64 hd, .bool fo, .bool sk, .str ins]), (1, .own nodeTy (putNew t (up, a) (k, s, nm, at_, d, u, []))), (2, .own intTy op)] := by
 refine FnM.intro (N := 23) [0, 1, 2, 3, 7, 8, 9] [(1, [0, 0, 0, 3, 3, 3])] 3 Tryz.call66 Tryz.func66 rfl rfl (by kernel_rfl) (fun hpre => ?_)
 repeat' ((conv => whnf);first|(with_reducible first|rfl|exact absTF|exact absFT)|exact True.intro|intro _|refine And.intro ?_ ?_|refine Fin.mk ?_|refine W1 rfl ?_ ?_|refine W2 rfl ?_ ?_|refine W3 rfl ?_ ?_|refine W4 ?_ ?_|refine W5 rfl ?_ ?_|refine W6 ?_ ?_|refine AppN.mk ?_|refine X1 (W1 rfl ?_ ?_)|refine X1 (W2 rfl ?_ ?_)|refine X2 (W7 rfl ?_ ?_)|refine X3 (W7 rfl ?_ ?_)|refine X4 (W7 rfl ?_ ?_)|refine X5 (W7 rfl ?_ ?_))
 all_goals (try (conv => whnf))
 all_goals (try first|exact obA|refine Ob.mk ?_)
 all_goals (first | exact small_add hpre.1 (by omega) (by first | exact hpre.2.2 | simp) | omega | rfl | trace_state)
instance qPutN (t : List NodeD) (op : List Int) (md bk lx fm hd : Int) (fo sk : Bool) (ins : List UInt8) (up a k s u : Int) (nm d : List UInt8)  : FnM BB 66 [.loc 0 0, .int .i64 up, .int .i64 a, .agg [.int .i64 k, .int .i64 s, .str nm, .nils, .str d, .int .i64 u, .nils]] [(0, .box [.own 1, .own 2, .nils, .int .i64 md, .int .i64 bk, .int .i64 lx, .int .i64 fm, .int .i64 hd, .bool fo, .bool sk, .str ins]), (1, .own nodeTy t), (2, .own intTy op)] (smallT t = true ∧ t.length ≤ 100) (.int .i64 t.length) [(0, .box [.own 1, .own 2, .nils, .int .i64 md, .int .i64 bk, .int .i64 lx, .int .i64 fm, .int .i64 hd, .bool fo, .bool sk, .str ins]), (1, .own nodeTy (putNew t (up, a) (k, s, nm, [], d, u, []))), (2, .own intTy op)] := by
 refine FnM.intro (N := 23) [0, 1, 2, 3, 7, 8, 9] [(1, [0, 0, 0, 3, 3, 3])] 3 Tryz.call66 Tryz.func66 rfl rfl (by kernel_rfl) (fun hpre => ?_)
 repeat' ((conv => whnf);first|(with_reducible first|rfl|exact absTF|exact absFT)|exact True.intro|intro _|refine And.intro ?_ ?_|refine Fin.mk ?_|refine W1 rfl ?_ ?_|refine W2 rfl ?_ ?_|refine W3 rfl ?_ ?_|refine W4 ?_ ?_|refine W5 rfl ?_ ?_|refine W6 ?_ ?_|refine AppN.mk ?_|refine X1 (W1 rfl ?_ ?_)|refine X1 (W2 rfl ?_ ?_)|refine X2 (W7 rfl ?_ ?_)|refine X3 (W7 rfl ?_ ?_)|refine X4 (W7 rfl ?_ ?_)|refine X5 (W7 rfl ?_ ?_))
 all_goals (try (conv => whnf))
 all_goals (try first|exact obA|refine Ob.mk ?_)
 all_goals (first | exact small_add hpre.1 (by omega) (by first | exact hpre.2.2 | simp) | omega | rfl | trace_state)
instance qElem (t : List NodeD) (op : List Int) (md bk lx fm hd : Int) (fo sk : Bool) (ins : List UInt8) (k sp : Int) (nm da : List UInt8) (se : Bool) (at_ : List AttrD) : FnM BB 30 [.loc 0 0, .agg [.int .i64 k, .str nm, .rd attrTy at_, .bool se, .str da], .int .i64 sp] [(0, .box [.own 1, .own 2, .nils, .int .i64 md, .int .i64 bk, .int .i64 lx, .int .i64 fm, .int .i64 hd, .bool fo, .bool sk, .str ins]), (1, .own nodeTy t), (2, .own intTy op)] ((okOp t op ∧ shortN t) ∧ smallT t = true ∧ t.length ≤ 100 ∧ at_.length ≤ 1000) (.int .i64 t.length) [(0, .box [.own 1, .own 2, .nils, .int .i64 md, .int .i64 bk, .int .i64 lx, .int .i64 fm, .int .i64 hd, .bool fo, .bool sk, .str ins]), (1, .own nodeTy (elemT t op fo sp nm at_)), (2, .own intTy (op ++ [(t.length : Int)]))] := by
 refine FnM.intro (N := 52) [0, 1, 2, 4, 6, 7, 8, 9] [(3, [0, 0, 0, 0, 4, 0, 0, 0, 4, 4, 0, 0, 0, 4, 4, 4, 0, 4, 4, 0, 0, 4])] 3 Tryz.call30 Tryz.func30 rfl rfl (by kernel_rfl) (fun hpre => ?_)
 have ho := hpre.1.1.1.2
 have hw : okOp t op ∧ shortN t ∧ (isE t (topS op) tabsL = true → 0 < op.length) := ⟨hpre.1.1, hpre.1.2, okOp_top _⟩
 repeat' ((conv => whnf);first|(with_reducible first|rfl|exact absTF|exact absFT)|exact True.intro|intro _|refine And.intro ?_ ?_|refine Fin.mk ?_|refine W1 rfl ?_ ?_|refine W2 rfl ?_ ?_|refine W3 rfl ?_ ?_|refine W4 ?_ ?_|refine W5 rfl ?_ ?_|refine W6 ?_ ?_|refine AppN.mk ?_|refine X1 (W1 rfl ?_ ?_)|refine X1 (W2 rfl ?_ ?_)|refine X2 (W7 rfl ?_ ?_)|refine X3 (W7 rfl ?_ ?_)|refine X4 (W7 rfl ?_ ?_)|refine X5 (W7 rfl ?_ ?_))
 all_goals (try (conv => whnf))
 all_goals (try first|exact obA|refine Ob.mk ?_)
 all_goals (first | exact hw | exact hpre.2 | exact ⟨by omega, by have := hpre.2.2.2; omega⟩ | (rw [Int.toNat_natCast, List.take_length]; done) | omega | exact small_add hpre.2.1 (by omega) hpre.2.2.2 | rfl | trace_state)
instance rElem (t : List NodeD) (op : List Int) (md bk lx fm hd : Int) (fo sk : Bool) (ins : List UInt8) (k sp : Int) (nm da : List UInt8) (se : Bool) (at_ : List AttrD) : FnM BB 44 [.loc 0 0, .agg [.int .i64 k, .str nm, .rd attrTy at_, .bool se, .str da], .int .i64 sp] [(0, .box [.own 1, .own 2, .nils, .int .i64 md, .int .i64 bk, .int .i64 lx, .int .i64 fm, .int .i64 hd, .bool fo, .bool sk, .str ins]), (1, .own nodeTy t), (2, .own intTy op)] ((okOp t op ∧ shortN t) ∧ smallT t = true ∧ t.length ≤ 100 ∧ at_.length ≤ 1000) (.int .i64 t.length) [(0, .box [.own 1, .own 2, .nils, .int .i64 md, .int .i64 bk, .int .i64 lx, .int .i64 fm, .int .i64 hd, .bool fo, .bool sk, .str ins]), (1, .own nodeTy (elemT t op fo sp nm at_)), (2, .own intTy (op ++ [(t.length : Int)]))] := by
 refine FnM.intro (N := 50) [0, 1, 2, 4, 6, 7, 8, 9] [(2, [0, 0, 0, 0, 0, 1, 0, 1, 3, 3, 3])] 3 Tryz.call44 Tryz.func44 rfl rfl (by kernel_rfl) (fun hpre => ?_)
 have ho := hpre.1.1.1.2
 have hw : okOp t op ∧ shortN t ∧ (isE t (topS op) tabsL = true → 0 < op.length) := ⟨hpre.1.1, hpre.1.2, okOp_top _⟩
 repeat' ((conv => whnf);first|(with_reducible first|rfl|exact absTF|exact absFT)|exact True.intro|intro _|refine And.intro ?_ ?_|refine Fin.mk ?_|refine W1 rfl ?_ ?_|refine W2 rfl ?_ ?_|refine W3 rfl ?_ ?_|refine W4 ?_ ?_|refine W5 rfl ?_ ?_|refine W6 ?_ ?_|refine AppN.mk ?_|refine X1 (W1 rfl ?_ ?_)|refine X1 (W2 rfl ?_ ?_)|refine X2 (W7 rfl ?_ ?_)|refine X3 (W7 rfl ?_ ?_)|refine X4 (W7 rfl ?_ ?_)|refine X5 (W7 rfl ?_ ?_))
 all_goals (try (conv => whnf))
 all_goals (try first|exact obA|refine Ob.mk ?_)
 all_goals (first | exact hw | exact hpre.2 | exact ⟨by omega, by have := hpre.2.2.2; omega⟩ | (rw [Int.toNat_natCast, List.take_length]; done) | omega | exact small_add hpre.2.1 (by omega) hpre.2.2.2 | rfl | trace_state)
end Go.Vc

namespace Go.Vc
open Go.Proofs
set_option maxRecDepth 10000
set_option maxHeartbeats 8000000
instance qNote (t : List NodeD) (op : List Int) (md bk lx fm hd : Int) (fo sk : Bool) (ins : List UInt8) (d : List UInt8) : FnM BB 46 [.loc 0 0, .str d, .int .i64 (-1)] [(0, .box [.own 1, .own 2, .nils, .int .i64 md, .int .i64 bk, .int .i64 lx, .int .i64 fm, .int .i64 hd, .bool fo, .bool sk, .str ins]), (1, .own nodeTy t), (2, .own intTy op)] ((okOp t op ∧ shortN t) ∧ smallT t = true ∧ t.length ≤ 100) (.tup []) [(0, .box [.own 1, .own 2, .nils, .int .i64 md, .int .i64 bk, .int .i64 lx, .int .i64 fm, .int .i64 hd, .bool fo, .bool sk, .str ins]), (1, .own nodeTy (noteT t op fo d)), (2, .own intTy op)] := by
 refine FnM.intro (N := 41) [0, 1, 2, 6, 18] [] 3 Tryz.call46 Tryz.func46 rfl rfl (by kernel_rfl) (fun hpre => ?_)
 have ho := hpre.1.1.1.2
 have hw : okOp t op ∧ shortN t ∧ (isE t (topS op) tabsL = true → 0 < op.length) := ⟨hpre.1.1, hpre.1.2, okOp_top _⟩
 repeat' ((conv => whnf);first|(with_reducible first|rfl|exact absTF|exact absFT)|exact True.intro|(intro hq; (try simp only [ZA,ZB,ZC,ZD,ZE,ZF,ZG,ZH,ZI,ZJ,ZK,ZL,ZM,ZN,ZO,Bool.and_eq_false_iff,Bool.or_eq_false_iff,ge_iff_le,gt_iff_lt,Int.toNat_natCast,UInt8.ofNat_toNat,cast_eq] at hq); (try (exfalso; first | omega | exact hq trivial | exact absurd hq (by decide))))|refine And.intro ?_ ?_|refine Fin.mk ?_|refine W1 rfl ?_ ?_|refine W2 rfl ?_ ?_|refine W3 rfl ?_ ?_|refine W4 ?_ ?_|refine W5 rfl ?_ ?_|refine W6 ?_ ?_|refine AppN.mk ?_|refine X1 (W1 rfl ?_ ?_)|refine X1 (W2 rfl ?_ ?_)|refine X2 (W7 rfl ?_ ?_)|refine X3 (W7 rfl ?_ ?_)|refine X4 (W7 rfl ?_ ?_)|refine X5 (W7 rfl ?_ ?_))
 all_goals (try (conv => whnf))
 all_goals (try first|exact obA|refine Ob.mk ?_)
 all_goals (first | exact hw | exact hpre.2 | omega | exact small_add hpre.2.1 (by omega) (by simp) | rfl | trace_state)
instance rNote (t : List NodeD) (op : List Int) (md bk lx fm hd : Int) (fo sk : Bool) (ins : List UInt8) (d : List UInt8) : FnM BB 47 [.loc 0 0, .str d, .int .i64 (-1)] [(0, .box [.own 1, .own 2, .nils, .int .i64 md, .int .i64 bk, .int .i64 lx, .int .i64 fm, .int .i64 hd, .bool fo, .bool sk, .str ins]), (1, .own nodeTy t), (2, .own intTy op)] ((okOp t op ∧ shortN t) ∧ smallT t = true ∧ t.length ≤ 100) (.tup []) [(0, .box [.own 1, .own 2, .nils, .int .i64 md, .int .i64 bk, .int .i64 lx, .int .i64 fm, .int .i64 hd, .bool fo, .bool sk, .str ins]), (1, .own nodeTy (noteT t op fo d)), (2, .own intTy op)] := by
 refine FnM.intro (N := 51) [0, 1, 2, 6, 18] [(4, [0, 0, 0, 0, 0, 0, 0, 0, 0, 3, 3, 3])] 3 Tryz.call47 Tryz.func47 rfl rfl (by kernel_rfl) (fun hpre => ?_)
 have ho := hpre.1.1.1.2
 have hw : okOp t op ∧ shortN t ∧ (isE t (topS op) tabsL = true → 0 < op.length) := ⟨hpre.1.1, hpre.1.2, okOp_top _⟩
 repeat' ((conv => whnf);first|(with_reducible first|rfl|exact absTF|exact absFT)|exact True.intro|(intro hq; (try simp only [ZA,ZB,ZC,ZD,ZE,ZF,ZG,ZH,ZI,ZJ,ZK,ZL,ZM,ZN,ZO,Bool.and_eq_false_iff,Bool.or_eq_false_iff,ge_iff_le,gt_iff_lt,Int.toNat_natCast,UInt8.ofNat_toNat,cast_eq] at hq); (try (exfalso; first | omega | exact hq trivial | exact absurd hq (by decide))))|refine And.intro ?_ ?_|refine Fin.mk ?_|refine W1 rfl ?_ ?_|refine W2 rfl ?_ ?_|refine W3 rfl ?_ ?_|refine W4 ?_ ?_|refine W5 rfl ?_ ?_|refine W6 ?_ ?_|refine AppN.mk ?_|refine X1 (W1 rfl ?_ ?_)|refine X1 (W2 rfl ?_ ?_)|refine X2 (W7 rfl ?_ ?_)|refine X3 (W7 rfl ?_ ?_)|refine X4 (W7 rfl ?_ ?_)|refine X5 (W7 rfl ?_ ?_))
 all_goals (try (conv => whnf))
 all_goals (try first|exact obA|refine Ob.mk ?_)
 all_goals (first | exact hw | exact hpre.2 | omega | exact small_add hpre.2.1 (by omega) (by simp) | rfl | trace_state)
instance qChars (t : List NodeD) (op : List Int) (md bk lx fm hd : Int) (fo sk : Bool) (ins : List UInt8) (d : List UInt8) : FnM BB 31 [.loc 0 0, .str d] [(0, .box [.own 1, .own 2, .nils, .int .i64 md, .int .i64 bk, .int .i64 lx, .int .i64 fm, .int .i64 hd, .bool fo, .bool sk, .str ins]), (1, .own nodeTy t), (2, .own intTy op)] ((TiL t ∧ shortD t ∧ d.length ≤ 100000) ∧ (okOp t op ∧ shortN t) ∧ smallT t = true ∧ t.length ≤ 100) (.tup []) [(0, .box [.own 1, .own 2, .nils, .int .i64 md, .int .i64 bk, .int .i64 lx, .int .i64 fm, .int .i64 hd, .bool fo, .bool sk, .str ins]), (1, .own nodeTy (charsT t op fo d)), (2, .own intTy op)] := by
 refine FnM.intro (N := 63) [0, 1, 4, 5, 6, 22, 24, 48] [(3, [0, 0, 0, 0, 1, 0, 0, 0, 0, 1, 0, 1, 1, 1, 0, 0, 1, 1, 3, 3])] 3 Tryz.call31 Tryz.func31 rfl rfl (by kernel_rfl) (fun hpre => ?_)
 obtain ⟨⟨hti, hsd, hdl⟩, hpre⟩ := hpre
 have ho := hpre.1.1.1.2
 have hw : okOp t op ∧ shortN t ∧ (isE t (topS op) tabsL = true → 0 < op.length) := ⟨hpre.1.1, hpre.1.2, okOp_top _⟩
 have hW : okW t (whereT t op fo (topS op)) := okW_of hti hpre.1.1
 unfold charsT wT
 repeat' ((conv => whnf);first|(with_reducible first|rfl|exact absTF|exact absFT)|exact True.intro|intro _|refine And.intro ?_ ?_|refine Fin.mk ?_|refine W1 rfl ?_ ?_|refine W2 rfl ?_ ?_|refine W3 rfl ?_ ?_|refine W4 ?_ ?_|refine W5 rfl ?_ ?_|refine W6 ?_ ?_|refine AppN.mk ?_|refine X1 (W1 rfl ?_ ?_)|refine X1 (W2 rfl ?_ ?_)|refine X2 (W7 rfl ?_ ?_)|refine X3 (W7 rfl ?_ ?_)|refine X4 (W7 rfl ?_ ?_)|refine X5 (W7 rfl ?_ ?_))
 all_goals (try (conv => whnf))
 all_goals (try first|exact obA|refine Ob.mk ?_)
 all_goals (try exact hw)
 all_goals (generalize whereT t op fo (topS op) = w at *)
 all_goals (try exact hpre.2)
 all_goals (try (obtain ⟨⟨hw1, hw2⟩, ⟨hw3, hw4⟩, hw5⟩ := hW))
 all_goals (try (have hgt := of_decide_eq_true ‹decide (w.2 > 0) = true›; have hw6 := hw5 hgt))
 all_goals (first
  | (rw [charsW1 (by assumption)]; done)
  | (rw [charsW2 (by assumption) (by assumption) (by assumption)]; rfl)
  | (rw [charsW3 (by assumption) (by assumption) (by assumption)]; rfl)
  | (rw [charsW4 (by assumption) (by assumption)]; rfl)
  | exact hw6
  | exact ⟨hw1, hw2⟩
  | (unfold InI64; have hk := small_kids hpre.2.1 ⟨hw1, hw2⟩; omega)
  | exact small_add hpre.2.1 (by omega) (by simp)
  | omega
  | (show 0 ≤ w.2 - 1 ∧ w.2 - 1 < ((nd t w.1).kids.length : Nat); omega)
  | (show (w.2 - 1).toNat < (nd t w.1).kids.length; omega)
  | (show Int.toNat (preK t w) < _; omega)
  | (have hx := hsd (preK t w); show (nd t (preK t w)).2.2.2.2.1.length + d.length ≤ _; omega)
  | trace_state)
instance rChars (t : List NodeD) (op : List Int) (md bk lx fm hd : Int) (fo sk : Bool) (ins : List UInt8) (d : List UInt8) : FnM BB 45 [.loc 0 0, .str d] [(0, .box [.own 1, .own 2, .nils, .int .i64 md, .int .i64 bk, .int .i64 lx, .int .i64 fm, .int .i64 hd, .bool fo, .bool sk, .str ins]), (1, .own nodeTy t), (2, .own intTy op)] ((TiL t ∧ shortD t ∧ d.length ≤ 100000) ∧ (okOp t op ∧ shortN t) ∧ smallT t = true ∧ t.length ≤ 100) (.tup []) [(0, .box [.own 1, .own 2, .nils, .int .i64 md, .int .i64 bk, .int .i64 lx, .int .i64 fm, .int .i64 hd, .bool fo, .bool sk, .str ins]), (1, .own nodeTy (charsT t op fo d)), (2, .own intTy op)] := by
 refine FnM.intro (N := 73) [0, 1, 4, 5, 6, 22, 24, 47] [(6, [0, 0, 0, 0, 0, 0, 0, 0, 0, 3, 3, 3])] 3 Tryz.call45 Tryz.func45 rfl rfl (by kernel_rfl) (fun hpre => ?_)
 obtain ⟨⟨hti, hsd, hdl⟩, hpre⟩ := hpre
 have ho := hpre.1.1.1.2
 have hw : okOp t op ∧ shortN t ∧ (isE t (topS op) tabsL = true → 0 < op.length) := ⟨hpre.1.1, hpre.1.2, okOp_top _⟩
 have hW : okW t (whereT t op fo (topS op)) := okW_of hti hpre.1.1
 unfold charsT wT
 repeat' ((conv => whnf);first|(with_reducible first|rfl|exact absTF|exact absFT)|exact True.intro|intro _|refine And.intro ?_ ?_|refine Fin.mk ?_|refine W1 rfl ?_ ?_|refine W2 rfl ?_ ?_|refine W3 rfl ?_ ?_|refine W4 ?_ ?_|refine W5 rfl ?_ ?_|refine W6 ?_ ?_|refine AppN.mk ?_|refine X1 (W1 rfl ?_ ?_)|refine X1 (W2 rfl ?_ ?_)|refine X2 (W7 rfl ?_ ?_)|refine X3 (W7 rfl ?_ ?_)|refine X4 (W7 rfl ?_ ?_)|refine X5 (W7 rfl ?_ ?_))
 all_goals (try (conv => whnf))
 all_goals (try first|exact obA|refine Ob.mk ?_)
 all_goals (try exact hw)
 all_goals (generalize whereT t op fo (topS op) = w at *)
 all_goals (try exact hpre.2)
 all_goals (try (obtain ⟨⟨hw1, hw2⟩, ⟨hw3, hw4⟩, hw5⟩ := hW))
 all_goals (try (have hgt := of_decide_eq_true ‹decide (w.2 > 0) = true›; have hw6 := hw5 hgt))
 all_goals (first
  | (rw [charsW1 (by assumption)]; done)
  | (rw [charsW2 (by assumption) (by assumption) (by assumption)]; rfl)
  | (rw [charsW3 (by assumption) (by assumption) (by assumption)]; rfl)
  | (rw [charsW4 (by assumption) (by assumption)]; rfl)
  | exact hw6
  | exact ⟨hw1, hw2⟩
  | (unfold InI64; have hk := small_kids hpre.2.1 ⟨hw1, hw2⟩; omega)
  | exact small_add hpre.2.1 (by omega) (by simp)
  | omega
  | (show 0 ≤ w.2 - 1 ∧ w.2 - 1 < ((nd t w.1).kids.length : Nat); omega)
  | (show (w.2 - 1).toNat < (nd t w.1).kids.length; omega)
  | (show Int.toNat (preK t w) < _; omega)
  | (have hx := hsd (preK t w); show (nd t (preK t w)).2.2.2.2.1.length + d.length ≤ _; omega)
  | trace_state)
end Go.Vc

namespace Go.Vc
open Go.Proofs
set_option maxRecDepth 10000
set_option maxHeartbeats 8000000
abbrev op18Ty : Ty := .pr intTy (.pr intTy (.pr .str (.sl attrTy)))
abbrev St3 : Type := List NodeD × List Int × Bool
def doneT (s : St3) (o : op18Ty.T) : St3 :=
 bif o.1 == 0 then (elemT s.1 s.2.1 s.2.2 o.2.1 o.2.2.1 o.2.2.2, s.2.1 ++ [(s.1.length : Int)], s.2.2)
 else bif o.1 == 1 then (charsT s.1 s.2.1 s.2.2 o.2.2.1, s.2.1, s.2.2)
 else bif o.1 == 2 then (noteT s.1 s.2.1 s.2.2 o.2.2.1, s.2.1, s.2.2)
 else bif o.1 == 3 then (s.1, s.2.1.take (popR (fun x => isE s.1 x o.2.2.1) s.2.1 s.2.1.length), s.2.2)
 else bif o.1 == 4 then (s.1, s.2.1.take (cutR (implN s.1 o.2.2.1) s.2.1 s.2.1.length), s.2.2)
 else bif o.1 == 5 then (s.1, s.2.1.take (cutR (fun x => !isE s.1 x o.2.2.1) s.2.1 s.2.1.length), s.2.2)
 else bif o.1 == 6 then (s.1, s.2.1, !s.2.2) else s
structure Pre18 (s : St3) (o : op18Ty.T) : Prop where
 ti : TiL s.1
 sd : shortD s.1
 op : okOp s.1 s.2.1
 sn : shortN s.1
 sm : smallT s.1 = true
 len : s.1.length ≤ 100
 nm : o.2.2.1.length ≤ 60
 at_ : o.2.2.2.length ≤ 1000
theorem done0 {s : St3} {o : op18Ty.T}  (h : (o.1 == 0) = true) : doneT s o = (elemT s.1 s.2.1 s.2.2 o.2.1 o.2.2.1 o.2.2.2, s.2.1 ++ [(s.1.length : Int)], s.2.2) := by unfold doneT; rw [h]; rfl
theorem done1 {s : St3} {o : op18Ty.T} (h0 : (o.1 == 0) = false) (h : (o.1 == 1) = true) : doneT s o = (charsT s.1 s.2.1 s.2.2 o.2.2.1, s.2.1, s.2.2) := by unfold doneT; rw [h0, h]; rfl
theorem done2 {s : St3} {o : op18Ty.T} (h0 : (o.1 == 0) = false) (h1 : (o.1 == 1) = false) (h : (o.1 == 2) = true) : doneT s o = (noteT s.1 s.2.1 s.2.2 o.2.2.1, s.2.1, s.2.2) := by unfold doneT; rw [h0, h1, h]; rfl
theorem done3 {s : St3} {o : op18Ty.T} (h0 : (o.1 == 0) = false) (h1 : (o.1 == 1) = false) (h2 : (o.1 == 2) = false) (h : (o.1 == 3) = true) : doneT s o = (s.1, s.2.1.take (popR (fun x => isE s.1 x o.2.2.1) s.2.1 s.2.1.length), s.2.2) := by unfold doneT; rw [h0, h1, h2, h]; rfl
theorem done4 {s : St3} {o : op18Ty.T} (h0 : (o.1 == 0) = false) (h1 : (o.1 == 1) = false) (h2 : (o.1 == 2) = false) (h3 : (o.1 == 3) = false) (h : (o.1 == 4) = true) : doneT s o = (s.1, s.2.1.take (cutR (implN s.1 o.2.2.1) s.2.1 s.2.1.length), s.2.2) := by unfold doneT; rw [h0, h1, h2, h3, h]; rfl
theorem done5 {s : St3} {o : op18Ty.T} (h0 : (o.1 == 0) = false) (h1 : (o.1 == 1) = false) (h2 : (o.1 == 2) = false) (h3 : (o.1 == 3) = false) (h4 : (o.1 == 4) = false) (h : (o.1 == 5) = true) : doneT s o = (s.1, s.2.1.take (cutR (fun x => !isE s.1 x o.2.2.1) s.2.1 s.2.1.length), s.2.2) := by unfold doneT; rw [h0, h1, h2, h3, h4, h]; rfl
theorem done6 {s : St3} {o : op18Ty.T} (h0 : (o.1 == 0) = false) (h1 : (o.1 == 1) = false) (h2 : (o.1 == 2) = false) (h3 : (o.1 == 3) = false) (h4 : (o.1 == 4) = false) (h5 : (o.1 == 5) = false) (h : (o.1 == 6) = true) : doneT s o = (s.1, s.2.1, !s.2.2) := by unfold doneT; rw [h0, h1, h2, h3, h4, h5, h]; rfl
theorem done7 {s : St3} {o : op18Ty.T} (h0 : (o.1 == 0) = false) (h1 : (o.1 == 1) = false) (h2 : (o.1 == 2) = false) (h3 : (o.1 == 3) = false) (h4 : (o.1 == 4) = false) (h5 : (o.1 == 5) = false) (h6 : (o.1 == 6) = false) : doneT s o = s := by unfold doneT; rw [h0, h1, h2, h3, h4, h5, h6]; rfl
instance xDone (t : List NodeD) (op : List Int) (md bk lx fm hd : Int) (fo sk : Bool) (ins : List UInt8) (do_ sp : Int) (nm : List UInt8) (at_ : List AttrD) : FnM BB 11 [.loc 0 0, .loc 3 0, .agg [.int .i64 do_, .int .i64 sp, .str nm, .rd attrTy at_]] [(0, .box [.own 1, .own 2, .nils, .int .i64 md, .int .i64 bk, .int .i64 lx, .int .i64 fm, .int .i64 hd, .bool fo, .bool sk, .str ins]), (1, .own nodeTy t), (2, .own intTy op), (3, .box [.own 4, .own 5, .nils, .int .i64 md, .int .i64 bk, .int .i64 lx, .int .i64 fm, .int .i64 hd, .bool fo, .bool sk, .str ins]), (4, .own nodeTy t), (5, .own intTy op)] (Pre18 (t, op, fo) (do_, sp, nm, at_)) (.tup [])
  [(0, .box [.own 1, .own 2, .nils, .int .i64 md, .int .i64 bk, .int .i64 lx, .int .i64 fm, .int .i64 hd, .bool (doneT (t, op, fo) (do_, sp, nm, at_)).2.2, .bool sk, .str ins]), (1, .own nodeTy (doneT (t, op, fo) (do_, sp, nm, at_)).1), (2, .own intTy (doneT (t, op, fo) (do_, sp, nm, at_)).2.1), (3, .box [.own 4, .own 5, .nils, .int .i64 md, .int .i64 bk, .int .i64 lx, .int .i64 fm, .int .i64 hd, .bool (doneT (t, op, fo) (do_, sp, nm, at_)).2.2, .bool sk, .str ins]), (4, .own nodeTy (doneT (t, op, fo) (do_, sp, nm, at_)).1), (5, .own intTy (doneT (t, op, fo) (do_, sp, nm, at_)).2.1)] := by
 refine FnM.intro (N := 94) [0, 1, 2, 5, 6, 13, 14, 26, 36, 46, 56, 66, 76] [] 6 Tryz.call11 Tryz.func11 rfl rfl (by kernel_rfl) (fun hpre => ?_)
 obtain ⟨h1, h2, h3, h4, h5, h6, h7, h8⟩ := hpre
 have hol := h3.1.2
 simp only at h1 h2 h3 h4 h5 h6 h7 h8 hol
 repeat' ((conv => whnf);first|(with_reducible first|rfl|exact absTF|exact absFT)|exact True.intro|intro _|refine And.intro ?_ ?_|refine Fin.mk ?_|refine W1 rfl ?_ ?_|refine W2 rfl ?_ ?_|refine W3 rfl ?_ ?_|refine W4 ?_ ?_|refine W5 rfl ?_ ?_|refine W6 ?_ ?_|refine AppN.mk ?_|refine X1 (W1 rfl ?_ ?_)|refine X1 (W2 rfl ?_ ?_)|refine X2 (W7 rfl ?_ ?_)|refine X3 (W7 rfl ?_ ?_)|refine X4 (W7 rfl ?_ ?_)|refine X5 (W7 rfl ?_ ?_))
 all_goals (try (conv => whnf))
 all_goals (try first|exact obA|refine Ob.mk ?_)
 all_goals (first
  | exact ⟨⟨h3, h4⟩, h5, h6, h8⟩
  | exact ⟨⟨h1, h2, by omega⟩, ⟨h3, h4⟩, h5, h6⟩
  | exact ⟨⟨h3, h4⟩, h5, h6⟩
  | exact ⟨h4, by omega, by omega⟩
  | (rw [done0 (by assumption)]; done)
  | (rw [done1 (by assumption) (by assumption)]; done)
  | (rw [done2 (by assumption) (by assumption) (by assumption)]; done)
  | (rw [done3 (by assumption) (by assumption) (by assumption) (by assumption)]; done)
  | (rw [done4 (by assumption) (by assumption) (by assumption) (by assumption) (by assumption)]; done)
  | (rw [done5 (by assumption) (by assumption) (by assumption) (by assumption) (by assumption) (by assumption)]; done)
  | (rw [done6 (by assumption) (by assumption) (by assumption) (by assumption) (by assumption) (by assumption) (by assumption)]; done)
  | (rw [done7 (by assumption) (by assumption) (by assumption) (by assumption) (by assumption) (by assumption) (by assumption)]; done)
  | trace_state)
instance xSmall (do_ sp : Int) (nm : List UInt8) (at_ : List AttrD) : Fn BB 10 [.agg [.int .i64 do_, .int .i64 sp, .str nm, .rd attrTy at_]] True (.bool (decide ((nm.length : Int) ≤ 60) && attrsOk at_)) := by
 refine Fn.intro (N := 12) [0, 1, 2] [] Tryz.call10 Tryz.func10 rfl rfl (by kernel_rfl) (fun hpre => ?_)
 all_goals exact vcA
end Go.Vc

namespace Go.Vc
open Go.Proofs
set_option maxRecDepth 10000
def core (n : NodeD) : Int × Int × List UInt8 × List AttrD × List UInt8 := (n.1, n.2.1, n.2.2.1, n.2.2.2.1, n.2.2.2.2.1)
theorem nd_addT {t : List NodeD} {n : NodeD} {i : Int} (hi : okI t.length i) : nd (addT t n) i = nd t i := by
 unfold nd addT
 simp only [List.getD]
 rw [List.getElem?_append_left (by have := hi.1; have := hi.2; omega)]
theorem nd_addN {t : List NodeD} {n : NodeD} : nd (addT t n) (t.length : Int) = (n.1, n.2.1, n.2.2.1, n.2.2.2.1, n.2.2.2.2.1, -1, []) := by
 unfold nd addT
 simp only [List.getD, Int.toNat_natCast]
 rw [List.getElem?_append_right (Nat.le_refl _), Nat.sub_self]; rfl
theorem addT_len {t : List NodeD} {n : NodeD} : (addT t n).length = t.length + 1 := by simp [addT]
theorem Ds_no {t : List NodeD} {n : NodeD} (h : TiL t) {x : Int} (s : Ds (Uf (addT t n)) t.length x) : ¬ okI t.length x := by
 induction s with
 | here => intro hx; have := hx.2; omega
 | @up y hu _ ih =>
  intro hx
  have e : Uf (addT t n) y = Uf t y := by show (nd (addT t n) y).up = _; rw [nd_addT hx]
  rw [e] at ih hu
  rcases h.up y hx with q | q
  ·exact hu q
  ·exact ih q.1
def insK (ks : List Int) (a : Int) (k : Int) : List Int := ks.take (min (max a 0) (ks.length : Int)).toNat ++ k :: ks.drop (min (max a 0) (ks.length : Int)).toNat
theorem insK_end (ks : List Int) (k : Int) : insK ks (ks.length : Nat) k = ks ++ [k] := by
 unfold insK
 have e : (min (max ((ks.length : Nat) : Int) 0) (ks.length : Int)).toNat = ks.length := by omega
 rw [e, List.take_length, List.drop_length]
theorem putNew_eq {t : List NodeD} (h : TiL t) {w : Int × Int} (hw : okI t.length w.1) (n : NodeD) :
  putNew t w n = ((addT t n).set w.1.toNat (setKids (nd t w.1) (insK (nd t w.1).kids w.2 t.length))).set t.length (n.1, n.2.1, n.2.2.1, n.2.2.2.1, n.2.2.2.2.1, w.1, []) := by
 have hpos := h.pos
 have hl := addT_len (t := t) (n := n)
 have ha : isT (addT t n) w.1 = true := isT_iff.2 ⟨hw.1, by have := hw.2; omega⟩
 have hk : isT (addT t n) (t.length : Int) = true := isT_iff.2 ⟨by omega, by omega⟩
 have hh : holdsT (addT t n) t.length w.1 = false := by
  cases e : holdsT (addT t n) t.length w.1 with
  | false => rfl
  | true =>
   unfold holdsT at e
   first
    | exact absurd hw (Ds_no h (of_holds _ _ e))
    | (split at e <;> first | exact absurd hw (Ds_no h (of_holds _ _ e)) | cases e)
    | (simp only [Bool.and_eq_true] at e; exact absurd hw (Ds_no h (of_holds _ _ e.2)))
 have hc : cutT (addT t n) t.length = addT t n := cut_none (by rw [nd_addN])
 have hz : ((t.length : Int) == 0) = false := by
  rw [beq_eq_false_iff_ne]; omega
 unfold putNew putT
 rw [ha, hk, hz, hh]
 simp only [Bool.not_true, Bool.or_false, Bool.false_eq_true, if_false]
 rw [hc, nd_addT hw]
 have hne : w.1.toNat ≠ t.length := by have := hw.1; have := hw.2; omega
 have e2 : nd ((addT t n).set w.1.toNat (setKids (nd t w.1) (insK (nd t w.1).kids w.2 t.length))) (t.length : Int) = (n.1, n.2.1, n.2.2.1, n.2.2.2.1, n.2.2.2.2.1, -1, []) := by
  rw [nd_set (by omega), if_neg (fun q => hne (by omega)), nd_addN]
 have e3 : ((t.length : Int)).toNat = t.length := Int.toNat_natCast _
 unfold insK at e2 ⊢
 rw [e2, e3]; rfl
theorem putNew_len {t : List NodeD} (h : TiL t) {w : Int × Int} (hw : okI t.length w.1) (n : NodeD) : (putNew t w n).length = t.length + 1 := by
 rw [putNew_eq h hw, List.length_set, List.length_set, addT_len]
theorem putNew_new {t : List NodeD} (h : TiL t) {w : Int × Int} (hw : okI t.length w.1) (n : NodeD) : nd (putNew t w n) t.length = (n.1, n.2.1, n.2.2.1, n.2.2.2.1, n.2.2.2.2.1, w.1, []) := by
 rw [putNew_eq h hw, nd_set (by omega), if_pos ⟨rfl, by rw [List.length_set, addT_len]; omega⟩]
theorem putNew_up {t : List NodeD} (h : TiL t) {w : Int × Int} (hw : okI t.length w.1) (n : NodeD) : nd (putNew t w n) w.1 = setKids (nd t w.1) (insK (nd t w.1).kids w.2 t.length) := by
 have h1 := hw.1
 have h2 := hw.2
 rw [putNew_eq h hw, nd_set h1, if_neg (fun q => by have := q.1; omega), nd_set h1, if_pos ⟨by omega, by rw [addT_len]; omega⟩]
theorem putNew_old {t : List NodeD} (h : TiL t) {w : Int × Int} (hw : okI t.length w.1) (n : NodeD) {i : Int} (hi : okI t.length i) (hne : i ≠ w.1) : nd (putNew t w n) i = nd t i := by
 have h1 := hi.1
 have h2 := hi.2
 have h3 := hw.1
 rw [putNew_eq h hw, nd_set h1, if_neg (fun q => by have := q.1; omega), nd_set h1, if_neg (fun q => hne (by have := q.1; omega)), nd_addT hi]
theorem putNew_core {t : List NodeD} (h : TiL t) {w : Int × Int} (hw : okI t.length w.1) (n : NodeD) {i : Int} (hi : okI t.length i) : core (nd (putNew t w n) i) = core (nd t i) := by
 by_cases e : i = w.1
 ·rw [e, putNew_up h hw]; rfl
 ·rw [putNew_old h hw n hi e]
theorem putNew_coreN {t : List NodeD} (h : TiL t) {w : Int × Int} (hw : okI t.length w.1) (n : NodeD) : core (nd (putNew t w n) t.length) = core n := by
 rw [putNew_new h hw]; rfl
theorem nd_out {t : List NodeD} {i : Int} (h : ¬ i < t.length) : nd t i = nodeTy.dflt := by
 unfold nd
 rw [List.getD_eq_getElem?_getD, List.getElem?_eq_none (by omega)]; rfl
theorem nd_neg {t : List NodeD} {i : Int} (h : i < 0) : nd t i = nd t 0 := by
 unfold nd
 rw [show i.toNat = 0 by omega]; rfl
def allC (p : Int × Int × List UInt8 × List AttrD × List UInt8 → Prop) (t : List NodeD) : Prop := ∀ i : Int, okI t.length i → p (core (nd t i))
theorem allC_put {p} {t : List NodeD} (h : TiL t) {w : Int × Int} (hw : okI t.length w.1) {n : NodeD} (ha : allC p t) (hn : p (core n)) : allC p (putNew t w n) := fun i hi => by
 rw [putNew_len h hw] at hi
 by_cases e : i = t.length
 ·rw [e, putNew_coreN h hw]; exact hn
 ·have hi2 : okI t.length i := ⟨hi.1, by have := hi.2; omega⟩
  rw [putNew_core h hw n hi2]; exact ha i hi2
theorem allC_set {p} {t : List NodeD} {k : Int} (hk : okI t.length k) {n : NodeD} (ha : allC p t) (hn : p (core n)) : allC p (t.set k.toNat n) := fun i hi => by
 rw [List.length_set] at hi
 rw [nd_set hi.1]
 split
 ·exact hn
 ·exact ha i hi
structure G18 (k : Nat) (s : St3) : Prop where
 ti : TiL s.1
 op : ∀ i : Nat, i < s.2.1.length → okI s.1.length (s.2.1.getD i 0)
 opl : s.2.1.length ≤ k + 1
 len : s.1.length ≤ k + 2
 co : allC (fun c => c.2.2.1.length ≤ 60 ∧ c.2.2.2.1.length ≤ 14 ∧ c.2.2.2.2.length ≤ 60 * (k + 1)) s.1
theorem allC_all {p : Int × Int × List UInt8 × List AttrD × List UInt8 → Prop} {t : List NodeD} (h0 : 0 < t.length) (hd : p (core nodeTy.dflt)) (h : allC p t) (i : Int) : p (core (nd t i)) := by
 by_cases h1 : i < 0
 ·rw [nd_neg h1]; exact h 0 ⟨by omega, by omega⟩
 ·by_cases h2 : i < t.length
  ·exact h i ⟨by omega, h2⟩
  ·rw [nd_out h2]; exact hd
theorem G18.all {k : Nat} {s : St3} (g : G18 k s) (i : Int) : (nd s.1 i).2.2.1.length ≤ 60 ∧ (nd s.1 i).2.2.2.1.length ≤ 14 ∧ (nd s.1 i).2.2.2.2.1.length ≤ 60 * (k + 1) :=
 allC_all (p := fun c => c.2.2.1.length ≤ 60 ∧ c.2.2.2.1.length ≤ 14 ∧ c.2.2.2.2.length ≤ 60 * (k + 1)) g.ti.pos ⟨by decide, by decide, by show (0 : Nat) ≤ _; omega⟩ g.co i
theorem ti_small {t : List NodeD} (h : TiL t) (hl : t.length ≤ 1000) (ha : ∀ i, (nd t i).2.2.2.1.length ≤ 1000) : smallT t = true := by
 refine smB_small (m := 1000) (Nat.le_refl _) ⟨hl, fun i hi => ?_⟩
 have e : nd t (i : Int) = t.getD i nodeTy.dflt := by unfold nd; rw [Int.toNat_natCast]
 have h1 := ha i
 have h2 := Ti.len h (i := (i : Int)) ⟨by omega, by omega⟩
 rw [e] at h1
 have h3 : (Kf t (i : Int)).length = (t.getD i nodeTy.dflt).kids.length := by show (nd t (i : Int)).kids.length = _; rw [e]
 exact ⟨h1, by omega⟩
theorem G18.short {k : Nat} {s : St3} (g : G18 k s) : shortN s.1 := fun i => by
 cases h : isT s.1 i with
 | false => rw [nodeE_out h]; decide
 | true => rw [nodeE_in h]; exact (g.all i).1
theorem G18.pre {k : Nat} {s : St3} (g : G18 k s) (hk : k ≤ 60) {o : op18Ty.T} (h1 : o.2.2.1.length ≤ 60) (h2 : o.2.2.2.length ≤ 14) : Pre18 s o :=
  { ti := g.ti, sd := fun i => Nat.le_trans (g.all i).2.2 (by omega), op := ⟨⟨g.ti.pos, by have := g.opl; omega⟩, fun i hi => g.op i hi⟩, sn := g.short,
    sm := ti_small g.ti (by have := g.len; omega) (fun i => Nat.le_trans (g.all i).2.1 (by omega)), len := by have := g.len; omega, nm := h1, at_ := by omega }
theorem G18.okw {k : Nat} {s : St3} (g : G18 k s) (hk : k ≤ 60) : okI s.1.length (wT s.1 s.2.1 s.2.2).1 :=
 (okW_of (fo := s.2.2) g.ti (g.pre hk (o := (0, 0, [], [])) (by decide) (by decide)).op).1
theorem ti_putNew {t : List NodeD} (h : TiL t) (w : Int × Int) (n : NodeD) : TiL (putNew t w n) := ti_put (ti_add n h) _ _ _
theorem ti_same {t t' : List NodeD} (h : TiL t) (hl : t'.length = t.length) (hu : ∀ i, okI t.length i → (nd t' i).up = (nd t i).up) (hk : ∀ i, okI t.length i → (nd t' i).kids = (nd t i).kids) : TiL t' := by
 unfold TiL; rw [hl]; exact Ti.congr h hu hk
theorem ti_setData {t : List NodeD} (h : TiL t) {k : Int} (hk : okI t.length k) (d : List UInt8) : TiL (t.set k.toNat (setData (nd t k) d)) := by
 refine ti_same h (List.length_set ..) (fun i hi => ?_) (fun i hi => ?_)
 ·rw [nd_set hi.1]; split
  ·rename_i q; have hq : k = i := by have := q.1; have := hk.1; omega
   rw [hq]; rfl
  ·rfl
 ·rw [nd_set hi.1]; split
  ·rename_i q; have hq : k = i := by have := q.1; have := hk.1; omega
   rw [hq]; rfl
  ·rfl
theorem okI_mono {n m : Nat} (h : n ≤ m) {i : Int} (hi : okI n i) : okI m i := ⟨hi.1, by have := hi.2; omega⟩
theorem allC_mono {p q : Int × Int × List UInt8 × List AttrD × List UInt8 → Prop} {t : List NodeD} (h : allC p t) (hpq : ∀ c, p c → q c) : allC q t := fun i hi => hpq _ (h i hi)
theorem G18.co' {k : Nat} {s : St3} (g : G18 k s) : allC (fun c => c.2.2.1.length ≤ 60 ∧ c.2.2.2.1.length ≤ 14 ∧ c.2.2.2.2.length ≤ 60 * (k + 1 + 1)) s.1 := allC_mono g.co fun c h => ⟨h.1, h.2.1, by omega⟩
theorem G18.weak {k : Nat} {s : St3} (g : G18 k s) : G18 (k + 1) s := ⟨g.ti, g.op, by have := g.opl; omega, by have := g.len; omega, g.co'⟩
theorem G18.cut {k : Nat} {s : St3} (g : G18 k s) (m : Nat) (fo : Bool) : G18 (k + 1) (s.1, s.2.1.take m, fo) := by
 refine ⟨g.ti, fun i hi => ?_, ?_, by have := g.len; show s.1.length ≤ _; omega, g.co'⟩
 ·simp only [List.length_take] at hi
  show okI s.1.length ((s.2.1.take m).getD i 0)
  rw [List.getD_eq_getElem?_getD, List.getElem?_take_of_lt (by omega), ← List.getD_eq_getElem?_getD]
  exact g.op i (by omega)
 ·have := g.opl; simp only [List.length_take]; omega
theorem G18.putN {k : Nat} {s : St3} (g : G18 k s) (hk : k ≤ 60) {w : Int × Int} (hw : okI s.1.length w.1) (fo : Bool) {n : NodeD} (hn : n.2.2.1.length ≤ 60 ∧ n.2.2.2.1.length ≤ 14 ∧ n.2.2.2.2.1.length ≤ 60) : G18 (k + 1) (putNew s.1 w n, s.2.1, fo) := by
 have hl := putNew_len g.ti hw n
 refine ⟨ti_putNew g.ti _ _, fun i hi => ?_, by have := g.opl; show s.2.1.length ≤ _; omega, ?_, allC_put g.ti hw g.co' ⟨hn.1, hn.2.1, by show n.2.2.2.2.1.length ≤ _; omega⟩⟩
 ·show okI (putNew s.1 w n).length _
  rw [hl]; exact okI_mono (by omega) (g.op i hi)
 ·show (putNew s.1 w n).length ≤ _
  rw [hl]; have := g.len; omega
theorem G18.step {k : Nat} {s : St3} (g : G18 k s) (hk : k ≤ 60) {o : op18Ty.T} (h1 : o.2.2.1.length ≤ 60) (h2 : o.2.2.2.length ≤ 14) : G18 (k + 1) (doneT s o) := by
 have hW := okW_of (fo := s.2.2) g.ti (g.pre hk (o := (0, 0, [], [])) (by decide) (by decide)).op
 unfold doneT
 cases o.1 == 0
 ·cases o.1 == 1
  ·cases o.1 == 2
   ·cases o.1 == 3
    ·cases o.1 == 4
     ·cases o.1 == 5
      ·cases o.1 == 6
       ·exact g.weak
       ·exact ⟨g.ti, g.op, by have := g.opl; show s.2.1.length ≤ _; omega, by have := g.len; show s.1.length ≤ _; omega, g.co'⟩
      ·exact g.cut _ _
     ·exact g.cut _ _
    ·exact g.cut _ _
   ·exact g.putN hk hW.1 _ ⟨by show (0 : Nat) ≤ 60; omega, by show (0 : Nat) ≤ 14; omega, h1⟩
  ·show G18 (k + 1) (charsT s.1 s.2.1 s.2.2 o.2.2.1, s.2.1, s.2.2)
   unfold charsT charsW
   generalize wT s.1 s.2.1 s.2.2 = w at *
   cases e0 : (o.2.2.1 == [] || w.1 == 0)
   ·simp only [cond_false]
    cases e1 : (decide (w.2 > 0) && (nd s.1 (preK s.1 w)).1 == 2)
    ·exact g.putN hk hW.1 _ ⟨by show (0 : Nat) ≤ 60; omega, by show (0 : Nat) ≤ 14; omega, h1⟩
    ·have hkk := hW.2.2 (of_decide_eq_true (Bool.and_eq_true_iff.1 e1).1)
     have hal := g.all (preK s.1 w)
     refine ⟨ti_setData g.ti hkk _, fun i hi => ?_, by have := g.opl; show s.2.1.length ≤ _; omega, ?_, allC_set hkk g.co' ?_⟩
     ·show okI (s.1.set _ _).length _
      rw [List.length_set]; exact g.op i hi
     ·show (s.1.set _ _).length ≤ _
      rw [List.length_set]; have := g.len; omega
     ·refine ⟨hal.1, hal.2.1, ?_⟩
      show ((nd s.1 (preK s.1 w)).2.2.2.2.1 ++ o.2.2.1).length ≤ _
      rw [List.length_append]; omega
   ·exact g.weak
 ·have h := g.putN hk hW.1 s.2.2 (n := elemN o.2.1 o.2.2.1 o.2.2.2) ⟨h1, h2, by show (0 : Nat) ≤ 60; omega⟩
  have hl := putNew_len g.ti hW.1 (elemN o.2.1 o.2.2.1 o.2.2.2)
  refine ⟨h.ti, fun i hi => ?_, ?_, h.len, h.co⟩
  ·simp only [cond_true, List.length_append, List.length_cons, List.length_nil] at hi
   show okI (putNew s.1 _ _).length ((s.2.1 ++ [(s.1.length : Int)]).getD i 0)
   rw [hl]
   by_cases e : i < s.2.1.length
   ·rw [List.getD_eq_getElem?_getD, List.getElem?_append_left e, ← List.getD_eq_getElem?_getD]
    exact okI_mono (by omega) (g.op i e)
   ·rw [List.getD_eq_getElem?_getD, List.getElem?_append_right (by omega), show i - s.2.1.length = 0 by omega]
    exact ⟨by show (0 : Int) ≤ (s.1.length : Int); omega, by show (s.1.length : Int) < _; omega⟩
  ·simp only [cond_true, List.length_append, List.length_cons, List.length_nil]
   have := g.opl; omega
end Go.Vc

namespace Go.Vc
open Go.Proofs
set_option maxRecDepth 10000
def kd (t : List NodeD) (i : Int) : Int := (nd t i).1
theorem Ds.trans {U : Int → Int} {a b c : Int} (h : Ds U a b) (g : Ds U b c) : Ds U a c := by
 induction g with
 | here => exact h
 | up hu _ ih => exact .up hu ih
theorem Ds_mono {t t' : List NodeD} (h : TiL t) (hu : ∀ i, okI t.length i → Uf t' i = Uf t i) {r x : Int} (s : Ds (Uf t) r x) : okI t.length x → Ds (Uf t') r x := by
 induction s with
 | here => intro _; exact .here
 | @up y hy _ ih =>
  intro ho
  have e := hu y ho
  rcases h.up y ho with q | q
  ·exact absurd q hy
  ·exact .up (by rw [e]; exact hy) (by rw [e]; exact ih q.1)
structure ShJ (t : List NodeD) (op : List Int) : Prop where
 ti : TiL t
 ne : 0 < op.length
 ok : ∀ i : Nat, i < op.length → okI t.length (op.getD i 0) ∧ 1 ≤ op.getD i 0 ∧ kd t (op.getD i 0) = 1
 k0 : kd t 0 = 0
 kn : ∀ i, okI t.length i → i ≠ 0 → 1 ≤ kd t i ∧ kd t i ≤ 3
 uk : ∀ i, okI t.length i → Uf t i ≠ -1 → kd t (Uf t i) ≤ 1
 adj : ∀ i, okI t.length i → ∀ j : Nat, j + 1 < (Kf t i).length → ¬ (kd t ((Kf t i).getD j 0) = 2 ∧ kd t ((Kf t i).getD (j + 1) 0) = 2)
 un : ∀ i, okI t.length i → i ≠ 0 → Uf t i ≠ -1
 pre : ∀ i, okI t.length i → i ≠ 0 → Ds (Uf t) (Uf t i) (i - 1)
 asc : ∀ i, okI t.length i → (Kf t i).Pairwise (· < ·) ∧ ∀ k ∈ Kf t i, i < k
 anc : ∀ i : Nat, i < op.length → Ds (Uf t) (op.getD i 0) (t.length - 1)
 chain : ∀ i j : Nat, i < j → j < op.length → op.getD i 0 < op.getD j 0 ∧ Ds (Uf t) (op.getD i 0) (op.getD j 0)
 lastk : ∀ i : Nat, i + 1 < op.length → (Kf t (op.getD i 0)).getLast? = some (op.getD (i + 1) 0)
 topc : ∀ c, (Kf t (op.getD (op.length - 1) 0)).getLast? = some c → kd t c = 2 → c = t.length - 1
def topI (op : List Int) : Int := op.getD (op.length - 1) 0
theorem topS_eq {op : List Int} (h : 0 < op.length) : topS op = topI op := by
 unfold topS topI
 rw [decide_eq_false (by omega)]; rfl
theorem ShJ.top {t op} (h : ShJ t op) : okI t.length (topI op) ∧ 1 ≤ topI op ∧ kd t (topI op) = 1 := h.ok _ (by have := h.ne; omega)
theorem ShJ.w {t op} (h : ShJ t op) : wT t op false = lastK t (topI op) := by
 have h1 := h.top.1.1
 have h2 := h.top.1.2
 unfold wT
 rw [topS_eq h.ne]
 exact where3 (by rw [decide_eq_false (by omega), decide_eq_false (by omega)]; rfl) rfl
theorem ShJ.cut {t op} (h : ShJ t op) {m : Nat} (hm : 0 < m) (hm2 : m ≤ op.length) : ShJ t (op.take m) := by
 have hl : (op.take m).length = m := by rw [List.length_take]; omega
 have hg : ∀ i, i < m → (op.take m).getD i 0 = op.getD i 0 := fun i hi => by
  rw [List.getD_eq_getElem?_getD, List.getElem?_take_of_lt hi, ← List.getD_eq_getElem?_getD]
 refine { ti := h.ti, ne := by omega, ok := fun i hi => ?_, k0 := h.k0, kn := h.kn, uk := h.uk, adj := h.adj, un := h.un, pre := h.pre, asc := h.asc, anc := fun i hi => ?_, chain := fun i j hij hj => ?_, lastk := fun i hi => ?_, topc := fun c hc hk => ?_ }
 ·rw [hg i (by omega)]; exact h.ok i (by omega)
 ·rw [hg i (by omega)]; exact h.anc i (by omega)
 ·rw [hg i (by omega), hg j (by omega)]; exact h.chain i j hij (by omega)
 ·rw [hg i (by omega), hg (i + 1) (by omega)]; exact h.lastk i (by omega)
 ·rw [hl, hg (m - 1) (by omega)] at hc
  by_cases e : m = op.length
  ·rw [e] at hc; exact h.topc c hc hk
  ·have h2 := h.lastk (m - 1) (by omega)
   rw [hc] at h2
   have h3 : c = op.getD (m - 1 + 1) 0 := Option.some.inj h2
   have h4 := (h.ok (m - 1 + 1) (by omega)).2.2
   rw [← h3, hk] at h4
   exact absurd h4 (by decide)
theorem ShJ.same {t t' op} (h : ShJ t op) (hl : t'.length = t.length) (hu : ∀ i, okI t.length i → Uf t' i = Uf t i) (hk : ∀ i, okI t.length i → Kf t' i = Kf t i) (hd : ∀ i, okI t.length i → kd t' i = kd t i) : ShJ t' op := by
 have hm : ∀ {r x}, Ds (Uf t) r x → okI t.length x → Ds (Uf t') r x := fun s => Ds_mono h.ti hu s
 have hpos := h.ti.pos
 have h0 : okI t.length 0 := ⟨by omega, by omega⟩
 have hup : ∀ i, okI t.length i → i ≠ 0 → okI t.length (Uf t i) := fun i hi hne => by
  rcases h.ti.up i hi with q | q
  ·exact absurd q (h.un i hi hne)
  ·exact q.1
 refine { ti := ti_same h.ti hl hu hk, ne := h.ne, ok := fun i hi => ?_, k0 := by rw [hd 0 h0]; exact h.k0, kn := fun i hi hne => ?_, uk := fun i hi hne => ?_, adj := fun i hi j hj => ?_, un := fun i hi hne => ?_, pre := fun i hi hne => ?_, asc := fun i hi => ?_, anc := fun i hi => ?_, chain := fun i j hij hj => ?_, lastk := fun i hi => ?_, topc := fun c hc hcd => ?_ }
 ·obtain ⟨a, b, c⟩ := h.ok i hi
  exact ⟨by rw [hl]; exact a, b, by rw [hd _ a]; exact c⟩
 ·rw [hl] at hi; rw [hd i hi]; exact h.kn i hi hne
 ·rw [hl] at hi; rw [hu i hi] at hne ⊢
  rcases h.ti.up i hi with q | q
  ·exact absurd q hne
  ·rw [hd _ q.1]; exact h.uk i hi hne
 ·rw [hl] at hi; rw [hk i hi] at hj ⊢
  have a1 := (h.ti.kid i hi _ (mem_getDi (l := Kf t i) (i := j) (by omega))).1
  have a2 := (h.ti.kid i hi _ (mem_getDi (l := Kf t i) (i := j + 1) (by omega))).1
  rw [hd _ a1, hd _ a2]; exact h.adj i hi j hj
 ·rw [hl] at hi; rw [hu i hi]; exact h.un i hi hne
 ·rw [hl] at hi; rw [hu i hi]; exact hm (h.pre i hi hne) ⟨by have := hi.1; omega, by have := hi.2; omega⟩
 ·rw [hl] at hi; rw [hk i hi]; exact h.asc i hi
 ·rw [hl]; exact hm (h.anc i hi) ⟨by omega, by omega⟩
 ·exact ⟨(h.chain i j hij hj).1, hm (h.chain i j hij hj).2 (h.ok j hj).1⟩
 ·rw [hk _ (h.ok i (by omega)).1]; exact h.lastk i hi
 ·have ht := (h.ok (op.length - 1) (by have := h.ne; omega)).1
  rw [hk _ ht] at hc
  have hco := (h.ti.kid _ ht c (List.mem_of_getLast? hc)).1
  rw [hd c hco] at hcd
  rw [hl]; exact h.topc c hc hcd
theorem ShJ.add {t op} (h : ShJ t op) {n : NodeD} (hn : 1 ≤ n.1 ∧ n.1 ≤ 3) (hc : n.1 = 2 → ∀ c, (Kf t (topI op)).getLast? = some c → kd t c ≠ 2) (el : Bool) (he : el = true → n.1 = 1) :
    ShJ (putNew t (lastK t (topI op)) n) (if el then op ++ [(t.length : Int)] else op) := by
  obtain ⟨t1, t2, t3⟩ := h.top
  have hne := h.ne
  have hpos := h.ti.pos
  generalize hw : lastK t (topI op) = w
  have hw1 : w.1 = topI op := by rw [← hw]; rfl
  have hw2 : w.2 = ((Kf t (topI op)).length : Nat) := by rw [← hw]; rfl
  have hwo : okI t.length w.1 := by rw [hw1]; exact t1
  have hl := putNew_len h.ti hwo n
  have hnew := putNew_new h.ti hwo n
  have hup := putNew_up h.ti hwo n
  have hold := fun (i : Int) => putNew_old (i := i) h.ti hwo n
  have hti : TiL (putNew t w n) := ti_putNew h.ti w n
  generalize hT : putNew t w n = T at *
  rw [hw1] at hnew hup hold
  have hins : insK (nd t (topI op)).kids w.2 t.length = Kf t (topI op) ++ [(t.length : Int)] := by rw [hw2]; exact insK_end _ _
  rw [hins] at hup
  have hU : ∀ i, okI t.length i → Uf T i = Uf t i := fun i hi => by
    by_cases e : i = topI op
    · rw [e]; show (nd T (topI op)).up = _; rw [hup]; rfl
    · show (nd T i).up = _; rw [hold i hi e]
  have hD : ∀ i, okI t.length i → kd T i = kd t i := fun i hi => by
    by_cases e : i = topI op
    · rw [e]; show (nd T (topI op)).1 = _; rw [hup]; rfl
    · show (nd T i).1 = _; rw [hold i hi e]; rfl
  have hK : ∀ i, okI t.length i → i ≠ topI op → Kf T i = Kf t i := fun i hi e => by show (nd T i).kids = _; rw [hold i hi e]
  have hKt : Kf T (topI op) = Kf t (topI op) ++ [(t.length : Int)] := by show (nd T (topI op)).kids = _; rw [hup]; rfl
  have hUn : Uf T t.length = topI op := by show (nd T t.length).up = _; rw [hnew]
  have hKn : Kf T t.length = [] := by show (nd T t.length).kids = _; rw [hnew]
  have hDn : kd T t.length = n.1 := by show (nd T t.length).1 = _; rw [hnew]
  have hsp : ∀ i, okI T.length i → okI t.length i ∨ i = t.length := fun i hi => by
    have h1 := hi.1
    have h2 := hi.2
    rw [hl] at h2
    by_cases e : i = t.length
    · exact .inr e
    · exact .inl ⟨h1, by omega⟩
  have hm : ∀ {r x}, Ds (Uf t) r x → okI t.length x → Ds (Uf T) r x := fun s => Ds_mono h.ti hU s
  have hlast1 : (t.length : Int) - 1 = ((t.length - 1 : Nat) : Int) := by omega
  have hDtop : Ds (Uf T) (topI op) t.length := .up (by rw [hUn]; omega) (by rw [hUn]; exact .here)
  have hanc : ∀ i : Nat, i < op.length → Ds (Uf T) (op.getD i 0) t.length := fun i hi => by
    by_cases e : i = op.length - 1
    · rw [e]; exact hDtop
    · have h2 := hm (h.chain i (op.length - 1) (by omega) (by omega)).2 t1
      exact h2.trans hDtop
  have base : ShJ T op := by
    refine { ti := hti, ne := hne, ok := fun i hi => ?_, k0 := by rw [hD 0 ⟨by omega, by omega⟩]; exact h.k0, kn := fun i hi hz => ?_, uk := fun i hi hz => ?_, adj := fun i hi j hj => ?_, un := fun i hi hz => ?_, pre := fun i hi hz => ?_, asc := fun i hi => ?_, anc := fun i hi => ?_, chain := fun i j hij hj => ?_, lastk := fun i hi => ?_, topc := fun c hcl hcd => ?_ }
    · obtain ⟨a, b, c⟩ := h.ok i hi
      exact ⟨by rw [hl]; exact okI_mono (by omega) a, b, by rw [hD _ a]; exact c⟩
    · rcases hsp i hi with q | rfl
      · rw [hD i q]; exact h.kn i q hz
      · rw [hDn]; exact hn
    · rcases hsp i hi with q | rfl
      · rw [hU i q] at hz ⊢
        rcases h.ti.up i q with q' | q'
        · exact absurd q' hz
        · rw [hD _ q'.1]; exact h.uk i q hz
      · rw [hUn, hD _ t1, t3]; decide
    · rcases hsp i hi with q | rfl
      · by_cases e : i = topI op
        · subst e
          rw [hKt] at hj ⊢
          simp only [List.length_append, List.length_cons, List.length_nil] at hj
          have g1 : (Kf t (topI op) ++ [(t.length : Int)]).getD j 0 = (Kf t (topI op)).getD j 0 := by
            rw [List.getD_eq_getElem?_getD, List.getElem?_append_left (by omega), ← List.getD_eq_getElem?_getD]
          have a1 := (h.ti.kid _ t1 _ (mem_getDi (l := Kf t (topI op)) (i := j) (by omega))).1
          rw [g1, hD _ a1]
          by_cases e2 : j + 1 < (Kf t (topI op)).length
          · have g2 : (Kf t (topI op) ++ [(t.length : Int)]).getD (j + 1) 0 = (Kf t (topI op)).getD (j + 1) 0 := by
              rw [List.getD_eq_getElem?_getD, List.getElem?_append_left (by omega), ← List.getD_eq_getElem?_getD]
            have a2 := (h.ti.kid _ t1 _ (mem_getDi (l := Kf t (topI op)) (i := j + 1) (by omega))).1
            rw [g2, hD _ a2]; exact h.adj _ t1 j e2
          · have g2 : (Kf t (topI op) ++ [(t.length : Int)]).getD (j + 1) 0 = t.length := by
              rw [List.getD_eq_getElem?_getD, List.getElem?_append_right (by omega), show j + 1 - (Kf t (topI op)).length = 0 by omega]; rfl
            rw [g2, hDn]
            intro hh
            refine hc hh.2 _ ?_ hh.1
            rw [List.getLast?_eq_getElem?, show (Kf t (topI op)).length - 1 = j by omega, List.getD_eq_getElem?_getD, List.getElem?_eq_getElem (by omega)]; rfl
        · rw [hK i q e] at hj ⊢
          have a1 := (h.ti.kid i q _ (mem_getDi (l := Kf t i) (i := j) (by omega))).1
          have a2 := (h.ti.kid i q _ (mem_getDi (l := Kf t i) (i := j + 1) (by omega))).1
          rw [hD _ a1, hD _ a2]; exact h.adj i q j hj
      · rw [hKn] at hj; exact absurd hj (by simp)
    · rcases hsp i hi with q | rfl
      · rw [hU i q]; exact h.un i q hz
      · rw [hUn]; omega
    · rcases hsp i hi with q | rfl
      · rw [hU i q]; exact hm (h.pre i q hz) ⟨by have := q.1; omega, by have := q.2; omega⟩
      · rw [hUn]
        have h2 := h.anc (op.length - 1) (by omega)
        exact hm h2 ⟨by omega, by omega⟩
    · rcases hsp i hi with q | rfl
      · by_cases e : i = topI op
        · subst e
          rw [hKt]
          obtain ⟨b1, b2⟩ := h.asc _ t1
          refine ⟨List.pairwise_append.2 ⟨b1, List.pairwise_singleton _ _, fun a ha b hb => ?_⟩, fun k hk => ?_⟩
          · rw [List.mem_singleton.1 hb]; exact (h.ti.kid _ t1 a ha).1.2
          · rcases List.mem_append.1 hk with q' | q'
            · exact b2 k q'
            · rw [List.mem_singleton.1 q']; exact t1.2
        · rw [hK i q e]; exact h.asc i q
      · rw [hKn]; exact ⟨List.Pairwise.nil, fun k hk => by cases hk⟩
    · rw [hl]
      have e : ((t.length + 1 : Nat) : Int) - 1 = t.length := by omega
      rw [e]; exact hanc i hi
    · exact ⟨(h.chain i j hij hj).1, hm (h.chain i j hij hj).2 (h.ok j hj).1⟩
    · have hlt := (h.chain i (op.length - 1) (by omega) (by omega)).1
      rw [hK _ (h.ok i (by omega)).1 (by show op.getD i 0 ≠ topI op; unfold topI; omega)]; exact h.lastk i hi
    · have hcl : (Kf T (topI op)).getLast? = some c := hcl
      rw [hKt, List.getLast?_concat] at hcl
      rw [hl, ← Option.some.inj hcl]; omega
  cases el with
  | false => exact base
  | true =>
    have hn1 := he rfl
    simp only [if_true]
    have gl : ∀ i : Nat, i < op.length → (op ++ [(t.length : Int)]).getD i 0 = op.getD i 0 := fun i hi => by
      rw [List.getD_eq_getElem?_getD, List.getElem?_append_left hi, ← List.getD_eq_getElem?_getD]
    have gn : (op ++ [(t.length : Int)]).getD op.length 0 = t.length := by
      rw [List.getD_eq_getElem?_getD, List.getElem?_append_right (Nat.le_refl _), Nat.sub_self]; rfl
    have hL : (op ++ [(t.length : Int)]).length = op.length + 1 := by simp
    have hto : okI T.length (t.length : Int) := by rw [hl]; exact ⟨by omega, by omega⟩
    refine { base with ne := by rw [hL]; omega, ok := fun i hi => ?_, anc := fun i hi => ?_, chain := fun i j hij hj => ?_, lastk := fun i hi => ?_, topc := fun c hcl hcd => ?_ }
    · rw [hL] at hi
      by_cases e : i = op.length
      · rw [e, gn]; exact ⟨hto, by omega, by rw [hDn, hn1]⟩
      · rw [gl i (by omega)]; exact base.ok i (by omega)
    · rw [hL] at hi
      by_cases e : i = op.length
      · rw [e, gn, hl, show ((t.length + 1 : Nat) : Int) - 1 = t.length by omega]; exact .here
      · rw [gl i (by omega)]; exact base.anc i (by omega)
    · rw [hL] at hj
      by_cases e : j = op.length
      · rw [e, gn, gl i (by omega)]
        exact ⟨(h.ok i (by omega)).1.2, hanc i (by omega)⟩
      · rw [gl i (by omega), gl j (by omega)]; exact base.chain i j hij (by omega)
    · rw [hL] at hi
      by_cases e : i + 1 = op.length
      · rw [e, gn, gl i (by omega), show op.getD i 0 = topI op by unfold topI; rw [show i = op.length - 1 by omega], hKt, List.getLast?_concat]
      · rw [gl i (by omega), gl (i + 1) (by omega)]; exact base.lastk i (by omega)
    · rw [hL, Nat.add_sub_cancel, gn, hKn] at hcl; cases hcl
end Go.Vc

namespace Go.Vc
open Go.Proofs
set_option maxRecDepth 10000
set_option maxHeartbeats 4000000
theorem take_cnt (l : List Int) (k : Nat) (x : Int) (h : k < l.length) : ((l.take (k + 1)).count x : Int) = bif l.getD k 0 == x then ((l.take k).count x : Int) + 1 else ((l.take k).count x : Int) := by
 rw [take_snoc l k 0 h, List.count_append, List.count_cons, List.count_nil]
 cases e : l.getD k 0 == x <;> simp
instance rtTimes (l : List Int) (x : Int) : Fn BB 48 [.rd intTy l, .int .i64 x] (l.length ≤ 1000000) (.int .i64 (l.count x : Nat)) := by
 refine Fn.intro (N := 22) [0, 1, 4, 5, 6, 10, 18] [] Tryz.call48 Tryz.func48 rfl rfl (by kernel_rfl) (fun hpre => ?_)
 repeat' ((conv => whnf);first|(with_reducible first|rfl|exact absTF|exact absFT)|exact True.intro|intro _|refine And.intro ?_ ?_|refine Fin.mk ?_|refine W1 rfl ?_ ?_|refine W2 rfl ?_ ?_|refine W3 rfl ?_ ?_|refine W4 ?_ ?_|refine W5 rfl ?_ ?_|refine W6 ?_ ?_|refine AppN.mk ?_|refine X1 (W1 rfl ?_ ?_)|refine X1 (W2 rfl ?_ ?_)|refine X2 (W7 rfl ?_ ?_)|refine X3 (W7 rfl ?_ ?_)|refine X4 (W7 rfl ?_ ?_)|refine X5 (W7 rfl ?_ ?_))
 all_goals (try (conv => whnf))
 all_goals (try first|exact obA|refine Ob.mk ?_)
 refine LoopStop.mk (α := Nat) (fun i => [(6, .int .i64 i), (5, .int .i64 ((l.take i).count x : Nat))]) (fun _ => []) 20 (fun i => i ≤ l.length) (fun i => l.length - i) 0 (Nat.zero_le _) ?_ (fun i hi => ?_)
 ·all_goals exact vcA
 ·have hc : (l.take i).count x ≤ i := Nat.le_trans List.count_le_length (by rw [List.length_take]; omega)
  repeat' ((conv => whnf);first|(with_reducible first|rfl|exact absTF|exact absFT)|exact True.intro|intro _|refine And.intro ?_ ?_|refine Fin.mk ?_|refine W1 rfl ?_ ?_|refine W2 rfl ?_ ?_|refine W3 rfl ?_ ?_|refine W4 ?_ ?_|refine W5 rfl ?_ ?_|refine W6 ?_ ?_|refine AppN.mk ?_|refine X1 (W1 rfl ?_ ?_)|refine X1 (W2 rfl ?_ ?_)|refine X2 (W7 rfl ?_ ?_)|refine X3 (W7 rfl ?_ ?_)|refine X4 (W7 rfl ?_ ?_)|refine X5 (W7 rfl ?_ ?_))
  all_goals (try (conv => whnf))
  all_goals (try first|exact obA|refine Ob.mk ?_)
  all_goals (try simp only [Int.toNat_natCast] at *)
  ·rename_i h1 h2
   have hl : i < l.length := by have := of_decide_eq_true h1; omega
   refine Rnd.mk ⟨i + 1, by omega, by omega, ?_, ?_, ?_⟩
   repeat' ((conv => whnf);first|(with_reducible first|rfl|exact absTF|exact absFT)|exact True.intro|intro _|refine And.intro ?_ ?_|refine Fin.mk ?_|refine W1 rfl ?_ ?_|refine W2 rfl ?_ ?_|refine W3 rfl ?_ ?_|refine W4 ?_ ?_|refine W5 rfl ?_ ?_|refine W6 ?_ ?_|refine AppN.mk ?_|refine X1 (W1 rfl ?_ ?_)|refine X1 (W2 rfl ?_ ?_)|refine X2 (W7 rfl ?_ ?_)|refine X3 (W7 rfl ?_ ?_)|refine X4 (W7 rfl ?_ ?_)|refine X5 (W7 rfl ?_ ?_))
   all_goals (try (conv => whnf))
   all_goals (try first|exact obA|refine Ob.mk ?_)
   all_goals (first | rfl | (rw [take_cnt l i x hl, show (l.getD i 0 == x) = true from h2]; rfl) | trace_state)
  ·rename_i h1 h2
   have hl : i < l.length := by have := of_decide_eq_true h1; omega
   refine Rnd.mk ⟨i + 1, by omega, by omega, ?_, ?_, ?_⟩
   repeat' ((conv => whnf);first|(with_reducible first|rfl|exact absTF|exact absFT)|exact True.intro|intro _|refine And.intro ?_ ?_|refine Fin.mk ?_|refine W1 rfl ?_ ?_|refine W2 rfl ?_ ?_|refine W3 rfl ?_ ?_|refine W4 ?_ ?_|refine W5 rfl ?_ ?_|refine W6 ?_ ?_|refine AppN.mk ?_|refine X1 (W1 rfl ?_ ?_)|refine X1 (W2 rfl ?_ ?_)|refine X2 (W7 rfl ?_ ?_)|refine X3 (W7 rfl ?_ ?_)|refine X4 (W7 rfl ?_ ?_)|refine X5 (W7 rfl ?_ ?_))
   all_goals (try (conv => whnf))
   all_goals (try first|exact obA|refine Ob.mk ?_)
   all_goals (first | rfl | (rw [take_cnt l i x hl, show (l.getD i 0 == x) = false from h2]; rfl) | trace_state)
  ·rename_i h1
   have hl : i = l.length := by have := of_decide_eq_false h1; omega
   rw [hl, List.take_length]
def heldF (t : List NodeD) : Nat → Int → Bool
 | 0, _ => false
 | f + 1, i => bif (nd t i).up == -1 then true else heldF t f (nd t i).up
def upsOk (t : List NodeD) : Prop := ∀ i : Int, 0 ≤ i ∧ i < t.length → (nd t i).up = -1 ∨ (0 ≤ (nd t i).up ∧ (nd t i).up < t.length)
instance rtHeld (t : List NodeD) (i : Int) : Fn BB 49 [.agg [.rd nodeTy t], .int .i64 i] ((0 ≤ i ∧ i < t.length) ∧ upsOk t ∧ t.length ≤ 1000000) (.bool (heldF t (t.length + 1) i)) := by
 refine Fn.intro (N := 26) [0, 1, 2, 4, 5, 10, 19] [] Tryz.call49 Tryz.func49 rfl rfl (by kernel_rfl) (fun hpre => ?_)
 obtain ⟨h1, h2, h3⟩ := hpre
 repeat' ((conv => whnf);first|(with_reducible first|rfl|exact absTF|exact absFT)|exact True.intro|intro _|refine And.intro ?_ ?_|refine Fin.mk ?_|refine W1 rfl ?_ ?_|refine W2 rfl ?_ ?_|refine W3 rfl ?_ ?_|refine W4 ?_ ?_|refine W5 rfl ?_ ?_|refine W6 ?_ ?_|refine AppN.mk ?_|refine X1 (W1 rfl ?_ ?_)|refine X1 (W2 rfl ?_ ?_)|refine X2 (W7 rfl ?_ ?_)|refine X3 (W7 rfl ?_ ?_)|refine X4 (W7 rfl ?_ ?_)|refine X5 (W7 rfl ?_ ?_))
 all_goals (try (conv => whnf))
 all_goals (try first|exact obA|refine Ob.mk ?_)
 refine LoopStop.mk (α := Nat × Int) (fun a => [(5, .int .i64 (a.1 : Nat)), (1, .int .i64 a.2)]) (fun _ => []) 20 (fun a => a.1 ≤ t.length + 1 ∧ (0 ≤ a.2 ∧ a.2 < t.length) ∧ heldF t (t.length + 1) i = heldF t (t.length + 1 - a.1) a.2) (fun a => t.length + 1 - a.1) (0, i) ⟨by simp, h1, rfl⟩ ?_ (fun a ha => ?_)
 ·all_goals exact vcA
 ·obtain ⟨k, j⟩ := a
  obtain ⟨g1, g2, g3⟩ := ha
  dsimp only at g1 g2 g3
  have hu := h2 j g2
  have st : k ≤ t.length → heldF t (t.length + 1 - k) j = bif (nd t j).up == -1 then true else heldF t (t.length + 1 - (k + 1)) (nd t j).up := fun h => by
   rw [show t.length + 1 - k = (t.length - k) + 1 by omega, heldF, show t.length + 1 - (k + 1) = t.length - k by omega]
  repeat' ((conv => whnf);first|(with_reducible first|rfl|exact absTF|exact absFT)|exact True.intro|intro _|refine And.intro ?_ ?_|refine Fin.mk ?_|refine W1 rfl ?_ ?_|refine W2 rfl ?_ ?_|refine W3 rfl ?_ ?_|refine W4 ?_ ?_|refine W5 rfl ?_ ?_|refine W6 ?_ ?_|refine AppN.mk ?_|refine X1 (W1 rfl ?_ ?_)|refine X1 (W2 rfl ?_ ?_)|refine X2 (W7 rfl ?_ ?_)|refine X3 (W7 rfl ?_ ?_)|refine X4 (W7 rfl ?_ ?_)|refine X5 (W7 rfl ?_ ?_))
  all_goals (try (conv => whnf))
  all_goals (try first|exact obA|refine Ob.mk ?_)
  all_goals (try dsimp only at *)
  all_goals (try (exact g2))
  all_goals (try omega)
  ·rename_i c1 c2
   have hk : k ≤ t.length := by have := of_decide_eq_true c1; omega
   rw [g3, st hk, show ((nd t j).up == -1) = true from c2]; rfl
  ·rename_i c1 c2
   have hk : k ≤ t.length := by have := of_decide_eq_true c1; omega
   have hne : (nd t j).up ≠ -1 := fun e => by
    rw [show ((nd t j).up == -1) = true from beq_iff_eq.2 e] at c2
    cases c2
   refine Rnd.mk ⟨(k + 1, (nd t j).up), ⟨by (simp only; omega), by (simp only; exact hu.resolve_left hne), by rw [g3, st hk, show ((nd t j).up == -1) = false from c2]; rfl⟩, by (simp only; omega), ?_, ?_, ?_⟩
   all_goals exact vcA
  ·rename_i c1
   have hk : k = t.length + 1 := by have := of_decide_eq_false c1; omega
   rw [g3, hk, Nat.sub_self]; rfl
end Go.Vc

namespace Go.Vc
open Go.Proofs
set_option maxRecDepth 10000
set_option maxHeartbeats 8000000
def ndR (t : List NodeD) (i : Nat) : NodeD := t.getD i nodeTy.dflt
def badA (t : List NodeD) (i : Nat) : Bool := decide ((i : Int) > 0) && (decide ((ndR t i).1 < 1) || decide ((ndR t i).1 > 4) || decide ((ndR t i).up < -1) || decide ((ndR t i).up ≥ (t.length : Int)))
def badB (t : List NodeD) (i : Nat) : Bool := decide ((ndR t i).up ≥ 0) && (decide ((nd t (ndR t i).up).1 > 1) || ((nd t (ndR t i).up).kids.count (i : Int) : Int) != 1)
def badK (t : List NodeD) (i : Nat) (k : Int) : Bool := decide (k < 0) || decide (k ≥ (t.length : Int)) || (nd t k).up != (i : Int)
def okN (t : List NodeD) (i : Nat) : Bool := !badA t i && !badB t i && (ndR t i).kids.all fun k => !badK t i k
def badR (t : List NodeD) : Bool := (t.length : Int) == 0 || (nd t 0).1 != 0 || (nd t 0).up != -1
def rightB (t : List NodeD) : Bool := !badR t && ((List.range t.length).all (okN t) && (List.range t.length).all fun i => heldF t (t.length + 1) i)
theorem all_range_step (p : Nat → Bool) (n i : Nat) (hi : i < n) (h : p i = false) : (List.range n).all p = false := by
 rw [List.all_eq_false]
 exact ⟨i, List.mem_range.2 hi, by rw [h]; decide⟩
theorem all_range_end (p : Nat → Bool) (n : Nat) (h : ∀ k, k < n → p k = true) : (List.range n).all p = true := by
 rw [List.all_eq_true]
 exact fun k hk => h k (List.mem_range.1 hk)
instance rtRight (t : List NodeD) : Fn BB 12 [.agg [.rd nodeTy t]] (t.length ≤ 1000 ∧ ∀ i, (nd t i).kids.length ≤ 1000) (.bool (rightB t)) := by
  refine Fn.intro (N := 138) [0, 1, 2, 3, 4, 5, 6, 26, 31, 63, 88, 93, 126, 131, 137] [(14, [0, 1, 0, 1, 1, 1, 1, 1, 1, 1, 1, 1, 1, 1, 1, 1, 1, 1, 1, 1, 1, 1, 1, 1, 1, 1, 1, 1, 1, 3, 3])] Tryz.call12 Tryz.func12 rfl rfl (by kernel_rfl) (fun hpre => ?_)
  obtain ⟨h1, h2⟩ := hpre
  have bt : badR t = true → rightB t = false := fun h => by unfold rightB; rw [h]; rfl
  have bf : badR t = false → 0 < t.length := fun h => by
    unfold badR at h
    simp only [Bool.or_eq_false_iff, beq_eq_false_iff_ne] at h
    have := h.1.1; omega
  repeat' ((conv => whnf);first|(with_reducible first|rfl|exact absTF|exact absFT)|exact True.intro|intro _|refine And.intro ?_ ?_|refine Fin.mk ?_|refine W1 rfl ?_ ?_|refine W2 rfl ?_ ?_|refine W3 rfl ?_ ?_|refine W4 ?_ ?_|refine W5 rfl ?_ ?_|refine W6 ?_ ?_|refine AppN.mk ?_|refine X1 (W1 rfl ?_ ?_)|refine X1 (W2 rfl ?_ ?_)|refine X2 (W7 rfl ?_ ?_)|refine X3 (W7 rfl ?_ ?_)|refine X4 (W7 rfl ?_ ?_)|refine X5 (W7 rfl ?_ ?_))
  all_goals (try (conv => whnf))
  all_goals (try first|exact obA|refine Ob.mk ?_)
  all_goals (try (have hz : ¬ t.length = 0 := fun e => by (have h := ‹((t.length : Int) == 0 || _) = false›; rw [Bool.or_eq_false_iff] at h; have := beq_eq_false_iff_ne.1 h.1; omega)))
  all_goals (try omega)
  · exact (bt ‹_›).symm
  have hbad : badR t = false := ‹_›
  have hpos := bf hbad
  have hup0 : (nd t 0).up = -1 := by
    unfold badR at hbad
    simp only [Bool.or_eq_false_iff] at hbad
    have := hbad.2
    simpa using this
  have red : rightB t = ((List.range t.length).all (okN t) && (List.range t.length).all fun i => heldF t (t.length + 1) i) := by unfold rightB; rw [hbad]; rfl
  rw [red]
  refine LoopStop.mk (α := Nat) (fun i => [(3, .int .i64 i)]) (fun _ => []) 20 (fun i => i ≤ t.length ∧ ∀ k, k < i → okN t k = true) (fun i => t.length - i) 0 ⟨Nat.zero_le _, fun k hk => absurd hk (Nat.not_lt_zero _)⟩ ?_ (fun i hi => ?_)
  · all_goals exact vcA
  · obtain ⟨hi, hall⟩ := hi
    have fA : badA t i = true → okN t i = false := fun h => by unfold okN; rw [h]; rfl
    have fB : badB t i = true → okN t i = false := fun h => by unfold okN; rw [h]; simp
    have fU : badA t i = false → i < t.length → (ndR t i).up = -1 ∨ (0 ≤ (ndR t i).up ∧ (ndR t i).up < t.length) := fun h hl => by
      by_cases e : i = 0
      · left; subst e; exact hup0
      · unfold badA at h
        rw [decide_eq_true (by omega), Bool.true_and] at h
        simp only [Bool.or_eq_false_iff] at h
        have a1 := of_decide_eq_false h.1.2
        have a2 := of_decide_eq_false h.2
        omega
    repeat' ((conv => whnf);first|(with_reducible first|rfl|exact absTF|exact absFT)|exact True.intro|intro _|refine And.intro ?_ ?_|refine Fin.mk ?_|refine W1 rfl ?_ ?_|refine W2 rfl ?_ ?_|refine W3 rfl ?_ ?_|refine W4 ?_ ?_|refine W5 rfl ?_ ?_|refine W6 ?_ ?_|refine AppN.mk ?_|refine X1 (W1 rfl ?_ ?_)|refine X1 (W2 rfl ?_ ?_)|refine X2 (W7 rfl ?_ ?_)|refine X3 (W7 rfl ?_ ?_)|refine X4 (W7 rfl ?_ ?_)|refine X5 (W7 rfl ?_ ?_))
    all_goals (try (conv => whnf))
    all_goals (try first|exact obA|refine Ob.mk ?_)
    all_goals (try simp only [Int.toNat_natCast] at *)
    all_goals (try (have hlt : i < t.length := by have := of_decide_eq_true ‹decide ((i : Int) < (t.length : Int)) = true›; omega))
    all_goals (try (have hA : badA t i = false := by assumption))
    all_goals (try (have hUp := fU hA hlt))
    all_goals (try (have hge := of_decide_eq_true (show decide ((ndR t i).up ≥ 0) = true by assumption); first
      | exact hUp.resolve_left (by omega)
      | exact Nat.le_trans (h2 _) (by omega)
      | (show Int.toNat (ndR t i).up < _; omega)))
    all_goals (try (rw [all_range_step _ _ i hlt (fA (by assumption))]; rfl))
    all_goals (try (rw [all_range_step _ _ i hlt (fB (by assumption))]; rfl))
    · have hB : badB t i = false := by assumption
      have fK : ∀ k, k ∈ (ndR t i).kids → badK t i k = true → okN t i = false := fun k hk h => by
        unfold okN
        rw [hA, hB]
        simp only [Bool.not_false, Bool.true_and, List.all_eq_false]
        exact ⟨k, hk, by rw [h]; decide⟩
      have hkl : (ndR t i).kids.length ≤ 1000 := by have := h2 (i : Int); unfold nd at this; rw [Int.toNat_natCast] at this; exact this
      refine LoopStop.mk (α := Nat) (fun j => [(5, .int .i64 j)]) (fun _ => []) 60 (fun j => j ≤ (ndR t i).kids.length ∧ ∀ k, k < j → badK t i ((ndR t i).kids.getD k 0) = false) (fun j => (ndR t i).kids.length - j) 0 ⟨Nat.zero_le _, fun k hk => absurd hk (Nat.not_lt_zero _)⟩ ?_ (fun j hj => ?_)
      · all_goals exact vcA
      · obtain ⟨hj, hjall⟩ := hj
        repeat' ((conv => whnf);first|(with_reducible first|rfl|exact absTF|exact absFT)|exact True.intro|intro _|refine And.intro ?_ ?_|refine Fin.mk ?_|refine W1 rfl ?_ ?_|refine W2 rfl ?_ ?_|refine W3 rfl ?_ ?_|refine W4 ?_ ?_|refine W5 rfl ?_ ?_|refine W6 ?_ ?_|refine AppN.mk ?_|refine X1 (W1 rfl ?_ ?_)|refine X1 (W2 rfl ?_ ?_)|refine X2 (W7 rfl ?_ ?_)|refine X3 (W7 rfl ?_ ?_)|refine X4 (W7 rfl ?_ ?_)|refine X5 (W7 rfl ?_ ?_))
        all_goals (try (conv => whnf))
        all_goals (try first|exact obA|refine Ob.mk ?_)
        all_goals (try simp only [Int.toNat_natCast] at *)
        all_goals (try (have hjl : j < (ndR t i).kids.length := by have := of_decide_eq_true (show decide ((j : Int) < ((ndR t i).kids.length : Int)) = true by assumption); omega))
        · have h := ‹(decide (_ < (0 : Int)) || decide (_ ≥ (t.length : Int))) = false›
          rw [Bool.or_eq_false_iff] at h
          have a1 := of_decide_eq_false h.1
          have a2 := of_decide_eq_false h.2
          omega
        · have hmem : (ndR t i).kids.getD j 0 ∈ (ndR t i).kids := by
            have e : (ndR t i).kids.getD j 0 = (ndR t i).kids[j] := by simp [List.getD, hjl]
            rw [e]; exact List.getElem_mem _
          rw [all_range_step _ _ i hlt (fK _ hmem (by assumption))]; rfl
        · have hk : badK t i ((ndR t i).kids.getD j 0) = false := by assumption
          refine Rnd.mk ⟨j + 1, ⟨by omega, fun k hk' => by (rcases Nat.lt_or_ge k j with q | q); exact hjall k q; (have : k = j := by omega); subst this; exact hk⟩, by omega, ?_, ?_, ?_⟩
          all_goals exact vcA
        · have hje : j = (ndR t i).kids.length := by have := of_decide_eq_false (show decide ((j : Int) < ((ndR t i).kids.length : Int)) = false by assumption); omega
          have hok : okN t i = true := by
            unfold okN
            rw [hA, hB]
            simp only [Bool.not_false, Bool.true_and, List.all_eq_true]
            intro k hk
            obtain ⟨m, hm, rfl⟩ := List.getElem_of_mem hk
            have := hjall m (by omega)
            rw [show (ndR t i).kids.getD m 0 = (ndR t i).kids[m] by simp [List.getD, hm]] at this
            rw [this]; rfl
          refine Rnd.mk ⟨i + 1, ⟨by omega, fun k hk' => by (rcases Nat.lt_or_ge k i with q | q); exact hall k q; (have : k = i := by omega); subst this; exact hok⟩, by omega, ?_, ?_, ?_⟩
          all_goals exact vcA
    · have hie : i = t.length := by have := of_decide_eq_false ‹decide ((i : Int) < (t.length : Int)) = false›; omega
      have e1 : (List.range t.length).all (okN t) = true := all_range_end _ _ (fun k hk => hall k (by omega))
      have hups : upsOk t := fun x hx => by
        have hx2 : x.toNat < t.length := by omega
        have h := hall x.toNat (by omega)
        have hA : badA t x.toNat = false := by unfold okN at h; cases e : badA t x.toNat <;> rw [e] at h <;> simp_all
        have e3 : ndR t x.toNat = nd t x := rfl
        by_cases e : x.toNat = 0
        · left
          have : x = 0 := by omega
          subst this; exact hup0
        · unfold badA at hA
          rw [decide_eq_true (by omega), Bool.true_and, e3] at hA
          simp only [Bool.or_eq_false_iff] at hA
          have a1 := of_decide_eq_false hA.1.2
          have a2 := of_decide_eq_false hA.2
          omega
      rw [e1, Bool.true_and]
      refine LoopStop.mk (α := Nat) (fun j => [(6, .int .i64 j)]) (fun _ => []) 60 (fun j => j ≤ t.length ∧ ∀ k, k < j → heldF t (t.length + 1) (k : Nat) = true) (fun j => t.length - j) 0 ⟨Nat.zero_le _, fun k hk => absurd hk (Nat.not_lt_zero _)⟩ ?_ (fun j hj => ?_)
      · all_goals exact vcA
      · obtain ⟨hj, hjall⟩ := hj
        repeat' ((conv => whnf);first|(with_reducible first|rfl|exact absTF|exact absFT)|exact True.intro|intro _|refine And.intro ?_ ?_|refine Fin.mk ?_|refine W1 rfl ?_ ?_|refine W2 rfl ?_ ?_|refine W3 rfl ?_ ?_|refine W4 ?_ ?_|refine W5 rfl ?_ ?_|refine W6 ?_ ?_|refine AppN.mk ?_|refine X1 (W1 rfl ?_ ?_)|refine X1 (W2 rfl ?_ ?_)|refine X2 (W7 rfl ?_ ?_)|refine X3 (W7 rfl ?_ ?_)|refine X4 (W7 rfl ?_ ?_)|refine X5 (W7 rfl ?_ ?_))
        all_goals (try (conv => whnf))
        all_goals (try first|exact obA|refine Ob.mk ?_)
        all_goals (try simp only [Int.toNat_natCast] at *)
        all_goals (try (have hjl : j < t.length := by have := of_decide_eq_true ‹decide ((j : Int) < (t.length : Int)) = true›; omega))
        all_goals (try exact ⟨by omega, hups, by omega⟩)
        · have h : heldF t (t.length + 1) (j : Nat) = false := by simpa using ‹(!heldF t (t.length + 1) _) = true›
          rw [all_range_step _ _ j hjl h]
        · have h : heldF t (t.length + 1) (j : Nat) = true := by simpa using ‹(!heldF t (t.length + 1) _) = false›
          refine Rnd.mk ⟨j + 1, ⟨by omega, fun k hk' => by (rcases Nat.lt_or_ge k j with q | q); exact hjall k q; (have : k = j := by omega); subst this; exact h⟩, by omega, ?_, ?_, ?_⟩
          all_goals exact vcA
        · have hje : j = t.length := by have := of_decide_eq_false ‹decide ((j : Int) < (t.length : Int)) = false›; omega
          rw [all_range_end _ _ (fun k hk => hjall k (by omega))]
end Go.Vc

namespace Go.Vc
open Go.Proofs
set_option maxRecDepth 10000
theorem kidsOf_eq (t : List NodeD) (i : Nat) : kidsOf t i = Kf t (i : Int) := by
 show _ = (nd t (i : Int)).kids
 unfold nd kidsOf; rw [Int.toNat_natCast]
def intoL (l : List Ev) : List Nat := (l.filter fun e => !e.2.2.2).map (·.1)
theorem intoL_app (a b : List Ev) : intoL (a ++ b) = intoL a ++ intoL b := by unfold intoL; rw [List.filter_append, List.map_append]
theorem run_into : ∀ (l : List Ev) (x : St), (x.run l).L = x.L ++ intoL l
 | [], x => by simp [St.run, intoL]
 | e :: l, x => by
  have h := run_into l (x.step e)
  show ((x.step e).run l).L = _
  rw [h]
  unfold St.step intoL
  cases he : e.2.2.2 <;> simp [he]
def seenTo (n m : Nat) : List Bool := (List.range n).map fun i => decide (i < m)
theorem seenTo_get {n m i : Nat} (h : i < n) : (seenTo n m).getD i true = decide (i < m) := by simp [seenTo, List.getD, h]
theorem seenTo_set {n m : Nat} : (seenTo n m).set m true = seenTo n (m + 1) := by
 refine List.ext_getElem (by simp [seenTo]) fun i h1 h2 => ?_
 rw [List.getElem_set]
 simp only [seenTo, List.getElem_map, List.getElem_range]
 split
 ·rename_i q; subst q; simp
 ·rename_i q; rw [decide_eq_decide]; omega
section
variable {t : List NodeD} {op : List Int}
theorem ShJ.up_lt (h : ShJ t op) {x : Int} (hx : okI t.length x) (h0 : x ≠ 0) : okI t.length (Uf t x) ∧ Uf t x < x := by
 rcases h.ti.up x hx with q | q
 ·exact absurd q (h.un x hx h0)
 ·exact ⟨q.1, (h.asc _ q.1).2 x ((mem_kids h.ti q.1).2 ⟨hx, rfl⟩)⟩
theorem ShJ.ds_le (h : ShJ t op) {a x : Int} (s : Ds (Uf t) a x) : okI t.length x → a ≤ x := by
 induction s with
 | here => intro _; exact Int.le_refl _
 | @up y hy _ ih =>
  intro hy2
  have h0 : y ≠ 0 := fun e => by subst e; exact hy h.ti.root
  have h1 := h.up_lt hy2 h0
  have := ih h1.1
  omega
theorem ShJ.ds_kid (h : ShJ t op) {a x : Int} (s : Ds (Uf t) a x) : okI t.length x → x ≠ a → ∃ j : Nat, j < (Kf t a).length ∧ Ds (Uf t) ((Kf t a).getD j 0) x := by
 induction s with
 | here => intro _ e; exact absurd rfl e
 | @up y hy hs ih =>
  intro hy2 hne
  have h0 : y ≠ 0 := fun e => by subst e; exact hy h.ti.root
  have h1 := h.up_lt hy2 h0
  by_cases e : Uf t y = a
  ·have hm : y ∈ Kf t a := (mem_kids h.ti (by rw [← e]; exact h1.1)).2 ⟨hy2, e⟩
   obtain ⟨j, hj, hje⟩ := List.getElem_of_mem hm
   refine ⟨j, hj, ?_⟩
   rw [List.getD_eq_getElem?_getD, List.getElem?_eq_getElem hj]
   show Ds (Uf t) (Kf t a)[j] y
   rw [hje]; exact .here
  ·obtain ⟨j, hj, hd⟩ := ih h1.1 e
   exact ⟨j, hj, .up hy hd⟩
theorem ShJ.ds_no (h : ShJ t op) {a : Int} {m : Nat} (hm : ¬ Ds (Uf t) a m) (ham : a < m) : ∀ d : Nat, m + d < t.length → ¬ Ds (Uf t) a ((m + d : Nat) : Int) := by
 intro d
 induction d with
 | zero => intro _; exact hm
 | succ d ih =>
  intro hd s
  have hx : okI t.length ((m + (d + 1) : Nat) : Int) := ⟨by omega, by omega⟩
  have hp := h.pre _ hx (by omega)
  have hdd := ih (by omega)
  cases s with
  | here => omega
  | up _ s2 =>
   refine hdd ?_
   have := s2.trans hp
   rw [show ((m + (d + 1) : Nat) : Int) - 1 = ((m + d : Nat) : Int) by omega] at this
   exact this
theorem dfs_pre (h : ShJ t op) : ∀ (s : List Bool) (i j c : Nat), ∀ m, s = seenTo t.length m → i < m → m ≤ t.length →
  (∀ x : Nat, m ≤ x → x < t.length → Ds (Uf t) i x → ∃ j' : Nat, j ≤ j' ∧ j' < (kidsOf t i).length ∧ Ds (Uf t) ((kidsOf t i).getD j' 0) x) →
  (∀ j' : Nat, j ≤ j' → j' < (kidsOf t i).length → (m : Int) ≤ (kidsOf t i).getD j' 0) →
  ∃ m', m ≤ m' ∧ m' ≤ t.length ∧ (dfs (kidsOf t) s i j c).2.1 = seenTo t.length m' ∧ intoL (dfs (kidsOf t) s i j c).1 = List.range' m (m' - m) ∧ (∀ x : Nat, m ≤ x → x < m' → Ds (Uf t) i x) ∧ (m' = t.length ∨ ¬ Ds (Uf t) i m') := by
 refine dfs_ind (K := kidsOf t) ?_ ?_ ?_
 ·intro s i j c hj m hs him hmn hA hC
  rw [dfs_end hj]
  refine ⟨m, Nat.le_refl _, hmn, hs, by simp [intoL], fun x h1 h2 => by omega, ?_⟩
  by_cases e : m = t.length
  ·exact .inl e
  ·right
   intro hd
   obtain ⟨j', a, b, _⟩ := hA m (Nat.le_refl _) (by omega) hd
   omega
 ·intro s i j c hj hk _ m hs him hmn hA hC
  exfalso
  have h1 := hC j (Nat.le_refl _) hj
  have hm := mem_getDi hj
  rw [kidsOf_eq] at hm h1
  have h2 := (h.ti.kid (i : Int) ⟨by omega, by omega⟩ _ hm).1
  rw [kidsOf_eq] at hk
  unfold okK at hk
  rw [decide_eq_true h2.1, hs, seenTo_get (by have := h2.1; have := h2.2; omega), decide_eq_false (by omega)] at hk
  cases hk
 ·intro s i j c hj hk ih1 ih2 m hs him hmn hA hC
  rw [dfs_ok hj hk]
  have hio : okI t.length (i : Int) := ⟨by omega, by omega⟩
  have h1 := hC j (Nat.le_refl _) hj
  have hmem := mem_getDi hj
  have hmem' : (kidsOf t i).getD j 0 ∈ Kf t (i : Int) := by rw [← kidsOf_eq]; exact hmem
  obtain ⟨hko, hku⟩ := h.ti.kid (i : Int) hio _ hmem'
  have hasc := (h.asc (i : Int) hio).1
  rw [← kidsOf_eq] at hasc
  have hkm : (kidsOf t i).getD j 0 = (m : Int) := by
   by_cases e : (kidsOf t i).getD j 0 = (m : Int)
   ·exact e
   ·exfalso
    generalize hk' : (kidsOf t i).getD j 0 = k at *
    have hp := h.pre k hko (by omega)
    rw [hku] at hp
    have hx : k - 1 = (((k - 1).toNat : Nat) : Int) := by omega
    rw [hx] at hp
    obtain ⟨j', a, b, d⟩ := hA (k - 1).toNat (by omega) (by have := hko.2; omega) hp
    have hle := h.ds_le d ⟨by omega, by have := hko.2; omega⟩
    by_cases e2 : j' = j
    ·subst e2; rw [hk'] at hle; omega
    ·have hlt := List.pairwise_iff_getElem.1 hasc j j' hj b (by omega)
     have g1 : (kidsOf t i)[j] = k := by rw [← hk']; simp [List.getD, hj]
     have g2 : (kidsOf t i)[j'] = (kidsOf t i).getD j' 0 := by simp [List.getD, b]
     rw [g1, g2] at hlt
     omega
  rw [hkm] at ih1 ih2 hku hko ⊢
  rw [Int.toNat_natCast] at *
  have hmn2 : m < t.length := by have := hko.2; omega
  rw [hs] at ih1 ih2 ⊢
  rw [seenTo_set] at ih1 ih2 ⊢
  obtain ⟨m1, a1, a2, a3, a4, a5, a6⟩ := ih1 (m + 1) rfl (by omega) (by omega)
   (fun x hx1 hx2 hd => by
    obtain ⟨j', b1, b2⟩ := h.ds_kid hd ⟨by omega, by omega⟩ (by omega)
    rw [← kidsOf_eq] at b1 b2
    exact ⟨j', by omega, b1, b2⟩)
   (fun j' _ hj' => by
    have hm2 := mem_getDi hj'
    rw [kidsOf_eq] at hm2
    have := (h.asc (m : Int) hko).2 _ hm2
    rw [kidsOf_eq]
    omega)
  obtain ⟨m2, b1, b2, b3, b4, b5, b6⟩ := ih2 m1 a3 (by omega) a2
   (fun x hx1 hx2 hd => by
    obtain ⟨j', c1, c2, c3⟩ := hA x (by omega) hx2 hd
    refine ⟨j', ?_, c2, c3⟩
    by_cases e : j' = j
    ·exfalso
     rw [e, hkm] at c3
     rcases a6 with q | q
     ·omega
     ·have := h.ds_no q (by omega) (x - m1) (by omega)
      rw [show m1 + (x - m1) = x by omega] at this
      exact this c3
    ·omega)
   (fun j' hj1 hj2 => by
    have hm2 := mem_getDi hj2
    have hm3 := hm2
    rw [kidsOf_eq] at hm3
    obtain ⟨ho2, hu2⟩ := h.ti.kid (i : Int) hio _ hm3
    rw [← kidsOf_eq] at ho2 hu2
    have hlt := List.pairwise_iff_getElem.1 hasc j j' hj hj2 (by omega)
    have g1 : (kidsOf t i)[j] = (m : Int) := by rw [← hkm]; simp [List.getD, hj]
    have g2 : (kidsOf t i)[j'] = (kidsOf t i).getD j' 0 := by simp [List.getD, hj2]
    rw [g1, g2] at hlt
    generalize (kidsOf t i).getD j' 0 = k at *
    by_cases e : (m1 : Int) ≤ k
    ·exact e
    ·exfalso
     have hd := a5 k.toNat (by omega) (by omega)
     rw [show ((k.toNat : Nat) : Int) = k by omega] at hd
     cases hd with
     | here => omega
     | up _ s2 =>
      rw [hu2] at s2
      have := h.ds_le s2 hio
      omega)
  refine ⟨m2, by omega, b2, b3, ?_, fun x hx1 hx2 => ?_, b6⟩
  ·show intoL ((m, (i : Int), c, false) :: (_ ++ _)) = _
   have e1 : ∀ l, intoL ((m, (i : Int), c, false) :: l) = m :: intoL l := fun l => rfl
   rw [e1, intoL_app, a4, b4]
   rw [show m2 - m = (m1 - (m + 1)) + (m2 - m1) + 1 by omega, List.range'_succ, ← List.range'_append_1]
   rw [show m + 1 + (m1 - (m + 1)) = m1 by omega]
  ·by_cases e : x < m1
   ·by_cases e2 : x = m
    ·subst e2; exact .up (by rw [hku]; omega) (by rw [hku]; exact .here)
    ·have s2 := a5 x (by omega) e
     exact Ds.trans (.up (by rw [hku]; omega) (by rw [hku]; exact .here)) s2
   ·exact b5 x (by omega) hx2
theorem ShJ.ds_root (h : ShJ t op) : ∀ x : Nat, x < t.length → Ds (Uf t) 0 x := by
 intro x
 induction x using Nat.strongRecOn with
 | ind x ih =>
  intro hx
  by_cases e : x = 0
  ·subst e; exact .here
  ·have hu := h.up_lt (x := (x : Int)) ⟨by omega, by omega⟩ (by omega)
   have h2 := ih (Uf t x).toNat (by have := hu.1.1; omega) (by have := hu.1.1; have := hu.1.2; omega)
   rw [show (((Uf t x).toNat : Nat) : Int) = Uf t x by have := hu.1.1; omega] at h2
   exact .up (h.un _ ⟨by omega, by omega⟩ (by omega)) h2
theorem ShJ.list (h : ShJ t op) : (fin t).L = List.range t.length := by
 have hpos := h.ti.pos
 obtain ⟨m', a1, a2, a3, a4, a5, a6⟩ := dfs_pre h (seenTo t.length 1) 0 0 1 1 rfl (by omega) (by omega)
  (fun x hx1 hx2 hd => by
   obtain ⟨j', b1, b2⟩ := h.ds_kid hd ⟨by omega, by omega⟩ (by show ((x : Nat) : Int) ≠ ((0 : Nat) : Int); omega)
   rw [← kidsOf_eq] at b1 b2
   exact ⟨j', by omega, b1, b2⟩)
  (fun j' _ hj' => by
   have hm2 := mem_getDi hj'
   rw [kidsOf_eq] at hm2
   have := (h.asc ((0 : Nat) : Int) ⟨by omega, by omega⟩).2 _ hm2
   rw [kidsOf_eq]
   omega)
 have hm : m' = t.length := by
  rcases a6 with q | q
  ·exact q
  ·by_cases e : m' = t.length
   ·exact e
   ·exact absurd (h.ds_root m' (by omega)) q
 unfold fin finT evsT
 rw [if_neg (by omega), run_into]
 have e1 : ∀ l, intoL ((0, (-1 : Int), 0, false) :: l) = 0 :: intoL l := fun l => rfl
 have e0 : (List.replicate t.length false).set 0 true = seenTo t.length 1 := by
  rw [← seenTo_set]
  congr 1
  refine List.ext_getElem (by simp [seenTo]) fun i h1 h2 => ?_
  simp [seenTo]
 rw [e1, e0, runS, runS, List.append_nil, a4, hm]
 show [] ++ _ = _
 rw [List.nil_append, List.range_eq_range', show t.length = (t.length - 1) + 1 by omega, List.range'_succ]
 simp
end
end Go.Vc

namespace Go.Vc
open Go.Proofs
set_option maxRecDepth 10000
def textU (t : List NodeD) (i : Nat) : List UInt8 := bif (nd t (i : Int)).1 == 2 then (nd t (i : Int)).2.2.2.2.1 else []
def textN (t : List NodeD) (m : Nat) : List UInt8 := ((List.range m).map (textU t)).flatten
def textT (t : List NodeD) : List UInt8 := textN t t.length
theorem textN_succ (t : List NodeD) (m : Nat) : textN t (m + 1) = textN t m ++ textU t m := by
 unfold textN
 rw [List.range_succ, List.map_append, List.flatten_append]
 simp
theorem textN_congr {t t' : List NodeD} {m : Nat} (h : ∀ i : Nat, i < m → textU t' i = textU t i) : textN t' m = textN t m := by
 induction m with
 | zero => rfl
 | succ m ih => rw [textN_succ, textN_succ, ih (fun i hi => h i (by omega)), h m (by omega)]
theorem text_put {t : List NodeD} (h : TiL t) {w : Int × Int} (hw : okI t.length w.1) (n : NodeD) : textT (putNew t w n) = textT t ++ (bif n.1 == 2 then n.2.2.2.2.1 else []) := by
 unfold textT
 rw [putNew_len h hw, textN_succ, textN_congr (t := t)]
 ·unfold textU; rw [putNew_new h hw]
 ·intro i hi
  have hc := putNew_core h hw n (i := (i : Int)) ⟨by omega, by omega⟩
  have a1 := congrArg (fun c => c.1) hc
  have a2 := congrArg (fun c => c.2.2.2.2) hc
  unfold core at a1 a2
  simp only at a1 a2
  unfold textU
  rw [a1, a2]
theorem text_set {t : List NodeD} (hp : 0 < t.length) {c : Int} (hc : c = t.length - 1) (hk : (nd t c).1 = 2) (d : List UInt8) : textT (t.set c.toNat (setData (nd t c) ((nd t c).2.2.2.2.1 ++ d))) = textT t ++ d := by
 unfold textT
 rw [List.length_set, show t.length = (t.length - 1) + 1 by omega, textN_succ, textN_succ, textN_congr (t := t)]
 ·have e : (((t.length - 1 : Nat)) : Int) = c := by omega
  unfold textU
  rw [e, nd_set (by omega), if_pos ⟨by omega, by omega⟩, hk]
  show _ ++ (bif (nd t c).1 == 2 then _ else _) = _
  rw [hk]
  show textN t (t.length - 1) ++ ((nd t c).2.2.2.2.1 ++ d) = textN t (t.length - 1) ++ (nd t c).2.2.2.2.1 ++ d
  rw [List.append_assoc]
 ·intro i hi
  unfold textU
  rw [nd_set (by omega), if_neg (fun q => by have := q.1; omega)]
structure J18 (k : Nat) (s : St3) : Prop where
 g : G18 k s
 fo : s.2.2 = false
 sh : ShJ s.1 s.2.1
def stepJ (s : St3) (o : op18Ty.T) : St3 := bif o.1 == 6 then s else doneT s o
def putX (o : op18Ty.T) : List UInt8 := bif o.1 == 1 then o.2.2.1 else []
theorem kd_lastK {t : List NodeD} {op : List Int} (h : ShJ t op) : ((nd t (preK t (lastK t (topI op)))).1 == 2) = false → ∀ c, (Kf t (topI op)).getLast? = some c → kd t c ≠ 2 := by
 intro he c hc hk
 have hne : (Kf t (topI op)) ≠ [] := fun e => by rw [e] at hc; cases hc
 have e2 : preK t (lastK t (topI op)) = c := by
  unfold preK lastK
  simp only
  rw [List.getLast?_eq_getElem?] at hc
  rw [show (((nd t (topI op)).kids.length : Int) - 1).toNat = (Kf t (topI op)).length - 1 by show (((Kf t (topI op)).length : Int) - 1).toNat = _; omega]
  rw [List.getD_eq_getElem?_getD]
  show (Kf t (topI op))[_]?.getD 0 = c
  rw [hc]; rfl
 rw [e2] at he
 rw [show ((nd t c).1 == 2) = true from beq_iff_eq.2 hk] at he
 cases he
theorem J18.step {k : Nat} {s : St3} (j : J18 k s) (hk : k ≤ 60) {o : op18Ty.T} (h1 : o.2.2.1.length ≤ 60) (h2 : o.2.2.2.length ≤ 14) : J18 (k + 1) (stepJ s o) ∧ textT (stepJ s o).1 = textT s.1 ++ putX o := by
  obtain ⟨t, op, fo⟩ := s
  have hfo : fo = false := j.fo
  subst hfo
  have hg := j.g.step hk h1 h2
  have hsh : ShJ t op := j.sh
  have hne := hsh.ne
  have hw : wT t op false = lastK t (topI op) := hsh.w
  have ht := hsh.top
  have hwo : okI t.length (lastK t (topI op)).1 := ht.1
  have hti : TiL t := hsh.ti
  unfold stepJ putX
  by_cases e6 : o.1 = 6
  · have ne1 : (o.1 == 1) = false := by rw [e6]; rfl
    rw [show (o.1 == 6) = true from beq_iff_eq.2 e6, show (o.1 == 1) = false from ne1]
    exact ⟨⟨j.g.weak, rfl, hsh⟩, by simp⟩
  rw [show (o.1 == 6) = false from beq_eq_false_iff_ne.2 e6, cond_false]
  have cutc : ∀ m, 0 < m → m ≤ op.length → ∀ b, doneT (t, op, false) o = (t, op.take m, b) → b = false → (o.1 == 1) = false → J18 (k + 1) (doneT (t, op, false) o) ∧ textT (doneT (t, op, false) o).1 = textT t ++ (bif o.1 == 1 then o.2.2.1 else []) := fun m hm1 hm2 b hd hb h1f => by
    rw [hd] at hg ⊢
    rw [h1f]
    exact ⟨⟨hg, hb, hsh.cut hm1 hm2⟩, by simp⟩
  by_cases e0 : o.1 = 0
  · have hd := done0 (s := (t, op, false)) (beq_iff_eq.2 e0)
    have ne1 : (o.1 == 1) = false := by rw [e0]; rfl
    rw [hd] at hg ⊢
    rw [show (o.1 == 1) = false from ne1]
    unfold elemT at hg ⊢
    simp only at hg ⊢
    rw [hw] at hg ⊢
    refine ⟨⟨hg, rfl, ?_⟩, ?_⟩
    · exact hsh.add (n := elemN o.2.1 o.2.2.1 o.2.2.2) ⟨by show (1 : Int) ≤ 1; omega, by show (1 : Int) ≤ 3; omega⟩ (fun q => absurd (show (1 : Int) = 2 from q) (by decide)) true (fun _ => rfl)
    · show textT (putNew t (lastK t (topI op)) _) = _
      rw [text_put hti hwo]; rfl
  by_cases e1 : o.1 = 1
  · have hd := done1 (s := (t, op, false)) (beq_eq_false_iff_ne.2 e0) (beq_iff_eq.2 e1)
    rw [hd] at hg ⊢
    rw [show (o.1 == 1) = true from beq_iff_eq.2 e1]
    unfold charsT at hg ⊢
    simp only at hg ⊢
    rw [hw] at hg ⊢
    simp only [cond_true]
    have hw0 : ((lastK t (topI op)).1 == 0) = false := beq_eq_false_iff_ne.2 (by show topI op ≠ 0; omega)
    by_cases ed : o.2.2.1 = []
    · have he := charsW1 (t := t) (w := lastK t (topI op)) (d := o.2.2.1) (by rw [show (o.2.2.1 == []) = true from beq_iff_eq.2 ed]; rfl)
      rw [he] at hg ⊢
      exact ⟨⟨hg, rfl, hsh⟩, by rw [ed, List.append_nil]⟩
    · have he0 : (o.2.2.1 == [] || (lastK t (topI op)).1 == 0) = false := by rw [show (o.2.2.1 == []) = false from beq_eq_false_iff_ne.2 ed, hw0]; rfl
      have hnew : ((nd t (preK t (lastK t (topI op)))).1 == 2) = false ∨ decide ((lastK t (topI op)).2 > 0) = false → charsW t (lastK t (topI op)) o.2.2.1 = putNew t (lastK t (topI op)) (dataN 2 o.2.2.1) := fun q => by
        cases e : decide ((lastK t (topI op)).2 > 0)
        · exact charsW4 he0 e
        · rcases q with q | q
          · exact charsW3 he0 e q
          · rw [q] at e; cases e
      by_cases ep : (lastK t (topI op)).2 > 0 ∧ (nd t (preK t (lastK t (topI op)))).1 = 2
      · have he := charsW2 he0 (decide_eq_true ep.1) (beq_iff_eq.2 ep.2)
        have hko := (okW_last hti ht.1).2.2 ep.1
        have hkl : (Kf t (topI op)).getLast? = some (preK t (lastK t (topI op))) := by
          have hp : (0 : Int) < ((Kf t (topI op)).length : Nat) := ep.1
          unfold preK lastK
          simp only
          rw [List.getLast?_eq_getElem?, show (((nd t (topI op)).kids.length : Int) - 1).toNat = (Kf t (topI op)).length - 1 by show (((Kf t (topI op)).length : Int) - 1).toNat = _; omega, List.getD_eq_getElem?_getD]
          show _ = some ((Kf t (topI op))[_]?.getD 0)
          rw [List.getElem?_eq_getElem (by omega)]; rfl
        have hcn := hsh.topc _ hkl ep.2
        rw [he] at hg ⊢
        refine ⟨⟨hg, rfl, ?_⟩, text_set hti.pos hcn ep.2 _⟩
        refine hsh.same (List.length_set ..) (fun i hi => ?_) (fun i hi => ?_) (fun i hi => ?_)
        · show (nd (t.set _ _) i).up = (nd t i).up
          rw [nd_set hi.1]; split
          · rename_i q; rw [show i = preK t (lastK t (topI op)) by have := q.1; have := hko.1; omega]; rfl
          · rfl
        · show (nd (t.set _ _) i).kids = (nd t i).kids
          rw [nd_set hi.1]; split
          · rename_i q; rw [show i = preK t (lastK t (topI op)) by have := q.1; have := hko.1; omega]; rfl
          · rfl
        · show (nd (t.set _ _) i).1 = (nd t i).1
          rw [nd_set hi.1]; split
          · rename_i q; rw [show i = preK t (lastK t (topI op)) by have := q.1; have := hko.1; omega]; rfl
          · rfl
      · have hq : ((nd t (preK t (lastK t (topI op)))).1 == 2) = false ∨ decide ((lastK t (topI op)).2 > 0) = false := by
          by_cases e : (lastK t (topI op)).2 > 0
          · left; exact beq_eq_false_iff_ne.2 fun q => ep ⟨e, q⟩
          · right; exact decide_eq_false e
        have he := hnew hq
        rw [he] at hg ⊢
        refine ⟨⟨hg, rfl, ?_⟩, ?_⟩
        · refine hsh.add (n := dataN 2 o.2.2.1) ⟨by show (1 : Int) ≤ 2; omega, by show (2 : Int) ≤ 3; omega⟩ (fun _ c hc => ?_) false (fun q => by cases q)
          rcases hq with q | q
          · exact kd_lastK hsh q c hc
          · have q1 : ¬ ((lastK t (topI op)).2 > 0) := of_decide_eq_false q
            have q2 : (Kf t (topI op)).length = 0 := by
              have : ¬ ((((Kf t (topI op)).length : Nat) : Int) > 0) := q1
              omega
            rw [List.length_eq_zero_iff.1 q2] at hc; cases hc
        · rw [text_put hti hwo]; rfl
  by_cases e2 : o.1 = 2
  · have hd := done2 (s := (t, op, false)) (beq_eq_false_iff_ne.2 e0) (beq_eq_false_iff_ne.2 e1) (beq_iff_eq.2 e2)
    rw [hd] at hg ⊢
    rw [show (o.1 == 1) = false from beq_eq_false_iff_ne.2 e1]
    unfold noteT at hg ⊢
    simp only at hg ⊢
    rw [hw] at hg ⊢
    refine ⟨⟨hg, rfl, ?_⟩, ?_⟩
    · exact hsh.add (n := dataN 3 o.2.2.1) ⟨by show (1 : Int) ≤ 3; omega, by show (3 : Int) ≤ 3; omega⟩ (fun q => absurd (show (3 : Int) = 2 from q) (by decide)) false (fun q => by cases q)
    · rw [text_put hti hwo]; rfl
  have n1 := beq_eq_false_iff_ne.2 e1
  by_cases e3 : o.1 = 3
  · exact cutc _ (popR_pos _ hne) (popR_le _ _ _) _ (done3 (s := (t, op, false)) (beq_eq_false_iff_ne.2 e0) n1 (beq_eq_false_iff_ne.2 e2) (beq_iff_eq.2 e3)) rfl n1
  by_cases e4 : o.1 = 4
  · exact cutc _ (cutR_pos _ hne) (cutR_le _ _ _) _ (done4 (s := (t, op, false)) (beq_eq_false_iff_ne.2 e0) n1 (beq_eq_false_iff_ne.2 e2) (beq_eq_false_iff_ne.2 e3) (beq_iff_eq.2 e4)) rfl n1
  by_cases e5 : o.1 = 5
  · exact cutc _ (cutR_pos _ hne) (cutR_le _ _ _) _ (done5 (s := (t, op, false)) (beq_eq_false_iff_ne.2 e0) n1 (beq_eq_false_iff_ne.2 e2) (beq_eq_false_iff_ne.2 e3) (beq_eq_false_iff_ne.2 e4) (beq_iff_eq.2 e5)) rfl n1
  · have hd := done7 (s := (t, op, false)) (beq_eq_false_iff_ne.2 e0) n1 (beq_eq_false_iff_ne.2 e2) (beq_eq_false_iff_ne.2 e3) (beq_eq_false_iff_ne.2 e4) (beq_eq_false_iff_ne.2 e5) (beq_eq_false_iff_ne.2 e6)
    rw [hd] at hg ⊢
    rw [n1]
    exact ⟨⟨hg, rfl, hsh⟩, by simp⟩
end Go.Vc

namespace Go.Vc
open Go.Proofs
set_option maxRecDepth 10000
set_option maxHeartbeats 8000000
theorem ti_newT : TiL newT := ti_put (ti_add _ ti_root) _ _ _
theorem g18_new (ins : List UInt8) : G18 0 (newTr ins, newOp ins, false) := by
 by_cases h : ins = []
 ·subst h
  refine ⟨ti_root, fun i hi => absurd hi (Nat.not_lt_zero _), by decide, by decide, fun i hi => ?_⟩
  have h0 : i = 0 := by have h1 := hi.1; have h2 : i < 1 := hi.2; omega
  subst h0; decide
 ·obtain ⟨e1, e2, _, _⟩ := new_ne h
  rw [e1, e2]
  refine ⟨ti_newT, fun i hi => ?_, by decide, by decide, fun i hi => ?_⟩
  ·have h0 : i = 0 := by have h2 : i < 1 := hi; omega
   subst h0; exact ⟨by decide, by decide⟩
  ·have h0 : i = 0 ∨ i = 1 := by have h1 := hi.1; have h2 : i < 2 := hi.2; omega
   rcases h0 with h0 | h0 <;> (subst h0; decide)
instance qElemN (t : List NodeD) (op : List Int) (md bk lx fm hd : Int) (fo sk : Bool) (ins : List UInt8) (k sp : Int) (nm da : List UInt8) (se : Bool) : FnM BB 30 [.loc 0 0, .agg [.int .i64 k, .str nm, .nils, .bool se, .str da], .int .i64 sp]
  [(0, .box [.own 1, .own 2, .nils, .int .i64 md, .int .i64 bk, .int .i64 lx, .int .i64 fm, .int .i64 hd, .bool fo, .bool sk, .str ins]), (1, .own nodeTy t), (2, .own intTy op)] ((okOp t op ∧ shortN t) ∧ smallT t = true ∧ t.length ≤ 100 ∧ ([] : List AttrD).length ≤ 1000) (.int .i64 t.length)
  [(0, .box [.own 1, .own 2, .nils, .int .i64 md, .int .i64 bk, .int .i64 lx, .int .i64 fm, .int .i64 hd, .bool fo, .bool sk, .str ins]), (1, .own nodeTy (elemT t op fo sp nm [])), (2, .own intTy (op ++ [(t.length : Int)]))] :=
 FnM.wk (qElem t op md bk lx fm hd fo sk ins k sp nm da se []) fun r β vs h => by
  refine ⟨h.1, fun i sv v h1 h2 => ?_⟩
  match i, h1 with
  | 0, h1 => cases h1; exact h.2 0 _ v rfl h2
  | 1, h1 =>
   cases h1
   obtain ⟨cs, rfl, hc⟩ := (h.2 1 _ v rfl h2).aggL_inv
   refine .aggL ⟨hc.1, fun j sv u q1 q2 => ?_⟩
   match j, q1 with
   | 0, q1 => cases q1; exact hc.2 0 _ u rfl q2
   | 1, q1 => cases q1; exact hc.2 1 _ u rfl q2
   | 2, q1 => cases q1; exact nils_rd (hc.2 2 _ u rfl q2)
   | 3, q1 => cases q1; exact hc.2 3 _ u rfl q2
   | 4, q1 => cases q1; exact hc.2 4 _ u rfl q2
  | 2, h1 => cases h1; exact h.2 2 _ v rfl h2
theorem kids_all {t : List NodeD} (h : TiL t) (i : Int) : (nd t i).kids.length ≤ t.length := by
 have h0 := h.pos
 have hz : (nd t 0).kids.length ≤ t.length := Ti.len h (i := 0) ⟨by omega, by omega⟩
 by_cases h1 : i < 0
 ·rw [nd_neg h1]; exact hz
 ·by_cases h2 : i < t.length
  ·exact Ti.len h (i := i) ⟨by omega, h2⟩
  ·rw [nd_out h2]; exact Nat.zero_le _
theorem g_aw0 : G18 0 (newTr [100, 105, 118], newOp [100, 105, 118], false) := g18_new _
def awO : Nat → op18Ty.T
 | 0 => (0, 0, [112], [])
 | 1 => (1, 0, [97], [])
 | _ => (1, 0, [98], [])
def awS : Nat → St3
 | 0 => (newTr [100, 105, 118], newOp [100, 105, 118], false)
 | 1 => (elemT (newTr [100, 105, 118]) (newOp [100, 105, 118]) false 0 [112] [], newOp [100, 105, 118] ++ [((newTr [100, 105, 118]).length : Int)], false)
 | n + 1 => (charsT (awS n).1 (awS n).2.1 false (awO n).2.2.1, (awS n).2.1, false)
theorem g_aw1 : G18 1 (awS 1) := g_aw0.step (o := awO 0) (by decide) (by decide) (by decide)
theorem g_aw2 : G18 2 (awS 2) := g_aw1.step (o := awO 1) (by decide) (by decide) (by decide)
theorem g_aw3 : G18 3 (awS 3) := g_aw2.step (o := awO 2) (by decide) (by decide) (by decide)
instance xAwake : Fn BB 7 [] True (.bool true) := by
 refine Fn.intro (N := 91) [0, 1, 2, 3, 4, 7, 53] [(10, [0, 0, 0, 1, 1, 1, 1, 1, 1, 1, 1, 1, 1, 1, 1, 1, 1, 1, 1, 1, 1, 1, 1, 1, 1, 1, 1, 1, 1, 1, 1, 1, 3, 3, 3, 3, 3, 3])] Tryz.call7 Tryz.func7 rfl rfl (by kernel_rfl) (fun hpre => ?_)
 have q0 := g_aw0.pre (o := awO 0) (by decide) (by decide) (by decide)
 have q1 := g_aw1.pre (o := awO 0) (by decide) (by decide) (by decide)
 have q2 := g_aw2.pre (o := awO 0) (by decide) (by decide) (by decide)
 have q3 := g_aw3.pre (o := awO 0) (by decide) (by decide) (by decide)
 repeat' ((conv => whnf);first|(with_reducible first|rfl|exact absTF|exact absFT)|exact True.intro|(intro hq;(try (exfalso;revert hq;decide +kernel)))|refine And.intro ?_ ?_|refine Fin.mk ?_|refine W1 rfl ?_ ?_|refine W2 rfl ?_ ?_|refine W3 rfl ?_ ?_|refine W4 ?_ ?_|refine W5 rfl ?_ ?_|refine W6 ?_ ?_|refine AppN.mk ?_|refine X1 (W1 rfl ?_ ?_)|refine X1 (W2 rfl ?_ ?_)|refine X2 (W7 rfl ?_ ?_)|refine X3 (W7 rfl ?_ ?_)|refine X4 (W7 rfl ?_ ?_)|refine X5 (W7 rfl ?_ ?_))
 all_goals (try (conv => whnf))
 all_goals (try first|exact obA|refine Ob.mk ?_)
 all_goals (first
  | exact ⟨⟨q0.op, q0.sn⟩, q0.sm, q0.len, by decide⟩
  | exact ⟨⟨q1.ti, q1.sd, by decide⟩, ⟨q1.op, q1.sn⟩, q1.sm, q1.len⟩
  | exact ⟨⟨q2.ti, q2.sd, by decide⟩, ⟨q2.op, q2.sn⟩, q2.sm, q2.len⟩
  | exact ⟨q3.op, q3.sn, fun _ => by decide⟩
  | exact ⟨Nat.le_trans q3.len (by decide), fun i => Nat.le_trans (kids_all q3.ti i) (Nat.le_trans q3.len (by decide))⟩
  | decide +kernel
  | trace_state)
end Go.Vc

namespace Go.Vc
open Go.Proofs
set_option maxRecDepth 10000
set_option maxHeartbeats 8000000
def smallO (o : op18Ty.T) : Bool := decide ((o.2.2.1.length : Int) ≤ 60) && attrsOk o.2.2.2
theorem smallO_len {o : op18Ty.T} (h : smallO o = true) : o.2.2.1.length ≤ 60 ∧ o.2.2.2.length ≤ 14 := by
 unfold smallO attrsOk at h
 simp only [Bool.and_eq_true, decide_eq_true_eq] at h
 exact ⟨by omega, h.2.1⟩
end Go.Vc

namespace Go.Vc
open Go.Proofs
set_option maxRecDepth 10000
set_option maxHeartbeats 8000000
def jS (ins : List UInt8) (l : List op18Ty.T) (i : Nat) : St3 := (l.take i).foldl stepJ (newTr ins, newOp ins, false)
theorem jS_succ (ins : List UInt8) (l : List op18Ty.T) (i : Nat) (h : i < l.length) : jS ins l (i + 1) = stepJ (jS ins l i) (l.getD i op18Ty.dflt) := by
 unfold jS
 rw [take_snoc l i op18Ty.dflt h, List.foldl_append]; rfl
theorem sh_newT : ShJ newT [1] := by
 have h1 : ∀ i : Nat, i < ([1] : List Int).length → i = 0 := fun i hi => by have h : i < 1 := hi; omega
 have h2 : ∀ i, okI newT.length i → i = 0 ∨ i = 1 := fun i hi => by have a := hi.1; have b : i < 2 := hi.2; omega
 refine { ti := ti_newT, ne := by decide, ok := fun i hi => ?_, k0 := by decide, kn := fun i hi hz => ?_, uk := fun i hi hz => ?_, adj := fun i hi j hj => ?_, un := fun i hi hz => ?_, pre := fun i hi hz => ?_, asc := fun i hi => ?_, anc := fun i hi => ?_, chain := fun i j hij hj => ?_, lastk := fun i hi => ?_, topc := fun c hc hk => ?_ }
 ·rw [h1 i hi]; exact ⟨⟨by decide, by decide⟩, by decide, by decide⟩
 ·rcases h2 i hi with rfl | rfl
  ·exact absurd rfl hz
  ·decide
 ·rcases h2 i hi with rfl | rfl
  ·exact absurd (by decide) hz
  ·decide
 ·rcases h2 i hi with rfl | rfl
  ·have : j + 1 < 1 := hj
   omega
  ·have : j + 1 < 0 := hj
   omega
 ·rcases h2 i hi with rfl | rfl
  ·exact absurd rfl hz
  ·decide
 ·rcases h2 i hi with rfl | rfl
  ·exact absurd rfl hz
  ·exact .here
 ·rcases h2 i hi with rfl | rfl
  ·exact ⟨by decide, by decide⟩
  ·exact ⟨by decide, by decide⟩
 ·rw [h1 i hi]; exact .here
 ·have : j = 0 := h1 j hj
  omega
 ·have : i + 1 = 0 := h1 (i + 1) hi
  omega
 ·have : (Kf newT 1).getLast? = some c := hc
  cases this
theorem j18_new {ins : List UInt8} (h : ins ≠ []) : J18 0 (newTr ins, newOp ins, false) := by
 have hg := g18_new ins
 obtain ⟨e1, e2, _, _⟩ := new_ne h
 rw [e1, e2] at hg ⊢
 exact ⟨hg, rfl, sh_newT⟩
theorem ne6 {o : op18Ty.T} (h : (o.1 != 6) = true) : (o.1 == 6) = false := by unfold bne at h; simpa using h
theorem eq6 {o : op18Ty.T} (h : (o.1 != 6) = false) : (o.1 == 6) = true := by unfold bne at h; simpa using h
end Go.Vc

namespace Go.Vc
open Go.Proofs
set_option maxRecDepth 10000
set_option maxHeartbeats 8000000
theorem textN_len {k : Nat} {s : St3} (g : G18 k s) (a : Nat) : (textN s.1 a).length ≤ a * (60 * (k + 1)) := by
 induction a with
 | zero => exact Nat.zero_le _
 | succ a ih =>
  rw [textN_succ, List.length_append, Nat.succ_mul]
  have h := (g.all (a : Int)).2.2
  have h2 : (textU s.1 a).length ≤ 60 * (k + 1) := by
   unfold textU
   cases (nd s.1 (a : Int)).1 == 2
   ·exact Nat.zero_le _
   ·exact h
  omega
theorem nd_nat (t : List NodeD) (a : Nat) : nd t (a : Int) = t.getD a nodeTy.dflt := by unfold nd; rw [Int.toNat_natCast]
theorem textN1 {t : List NodeD} {a : Nat} (h : ((t.getD a nodeTy.dflt).1 == 2) = true) : textN t (a + 1) = textN t a ++ (t.getD a nodeTy.dflt).2.2.2.2.1 := by
 rw [textN_succ]; unfold textU; rw [nd_nat, h]; rfl
theorem textN0 {t : List NodeD} {a : Nat} (h : ((t.getD a nodeTy.dflt).1 == 2) = false) : textN t (a + 1) = textN t a := by
 rw [textN_succ]; unfold textU; rw [nd_nat, h]; exact List.append_nil _
theorem putX1 {o : op18Ty.T} (h : (o.1 == 1) = true) : putX o = o.2.2.1 := by unfold putX; rw [h]; rfl
theorem putX0 {o : op18Ty.T} (h : (o.1 == 1) = false) : putX o = [] := by unfold putX; rw [h]; rfl
theorem textT_new {ins : List UInt8} (h : ins ≠ []) : textT (newTr ins) = [] := by
 rw [(new_ne h).1]; decide
instance xTexts (ins : List UInt8) (l : List op18Ty.T) : Fn BB 4 [.str ins, .rd op18Ty l] True (.bool true) := by
 refine Fn.intro (N := 89) [0, 1, 4, 5, 6, 7, 8, 9, 10, 12, 13, 20, 27, 28, 29, 30, 31, 41, 44, 51, 61, 62, 63, 64, 77] [] Tryz.call4 Tryz.func4 rfl rfl (by kernel_rfl) (fun hpre => ?_)
 have hinf : (decide ((ins.length : Int) > 40) || ins == []) = false → ins.length ≤ 60 ∧ ins ≠ [] := fun h => by
  have hin := Bool.or_eq_false_iff.1 h
  have hin1 := of_decide_eq_false hin.1
  exact ⟨by omega, fun e => by have h := hin.2; rw [e] at h; cases h⟩
 repeat' ((conv => whnf);first|(with_reducible first|rfl|exact absTF|exact absFT)|exact True.intro|intro _|refine And.intro ?_ ?_|refine Fin.mk ?_|refine W1 rfl ?_ ?_|refine W2 rfl ?_ ?_|refine W3 rfl ?_ ?_|refine W4 ?_ ?_|refine W5 rfl ?_ ?_|refine W6 ?_ ?_|refine AppN.mk ?_|refine X1 (W1 rfl ?_ ?_)|refine X1 (W2 rfl ?_ ?_)|refine X2 (W7 rfl ?_ ?_)|refine X3 (W7 rfl ?_ ?_)|refine X4 (W7 rfl ?_ ?_)|refine X5 (W7 rfl ?_ ?_))
 all_goals (try (conv => whnf))
 all_goals (try first|exact obA|refine Ob.mk ?_)
 all_goals (try (exfalso; exact absurd ‹false = true› (by decide)))
 all_goals (try (obtain ⟨hin1, hin2⟩ := hinf (by assumption)))
 all_goals (try exact hin1)
 refine LoopStop.mk (α := Nat) (fun i => [(30, .int .i64 i), (7, .str (textT (jS ins l i).1))]) (fun i => [(0, .box [.own 1, .own 2, .nils, .int .i64 (newMd ins), .int .i64 0, .int .i64 (newLx ins), .int .i64 0, .int .i64 0, .bool (jS ins l i).2.2, .bool false, .str ins]), (1, .own nodeTy (jS ins l i).1), (2, .own intTy (jS ins l i).2.1), (3, .box [.own 4, .own 5, .nils, .int .i64 (newMd ins), .int .i64 0, .int .i64 (newLx ins), .int .i64 0, .int .i64 0, .bool (jS ins l i).2.2, .bool false, .str ins]), (4, .own nodeTy (jS ins l i).1), (5, .own intTy (jS ins l i).2.1)]) 60 (fun i => i ≤ l.length ∧ i ≤ 40 ∧ J18 i (jS ins l i)) (fun i => l.length - i) 0 ⟨Nat.zero_le _, Nat.zero_le _, j18_new hin2⟩ ?_ (fun i hi => ?_)
 ·repeat' ((conv => whnf);first|(with_reducible first|rfl|exact absTF|exact absFT)|exact True.intro|intro _|refine And.intro ?_ ?_|refine Fin.mk ?_|refine W1 rfl ?_ ?_|refine W2 rfl ?_ ?_|refine W3 rfl ?_ ?_|refine W4 ?_ ?_|refine W5 rfl ?_ ?_|refine W6 ?_ ?_|refine AppN.mk ?_|refine X1 (W1 rfl ?_ ?_)|refine X1 (W2 rfl ?_ ?_)|refine X2 (W7 rfl ?_ ?_)|refine X3 (W7 rfl ?_ ?_)|refine X4 (W7 rfl ?_ ?_)|refine X5 (W7 rfl ?_ ?_))
  all_goals (try (conv => whnf))
  all_goals (try first|exact obA|refine Ob.mk ?_)
  all_goals (first | rfl | exact (textT_new hin2).symm | trace_state)
 ·obtain ⟨h1, h2, hg⟩ := hi
  have hsucc := jS_succ ins l i
  obtain ⟨s, hs⟩ : ∃ s, jS ins l i = s := ⟨_, rfl⟩
  rw [hs] at hg hsucc
  obtain ⟨t, op, fo⟩ := s
  have e1 : (jS ins l i).1 = t := by rw [hs]
  have e2 : (jS ins l i).2.1 = op := by rw [hs]
  have e3 : (jS ins l i).2.2 = fo := by rw [hs]
  rw [e1, e2, e3]
  have hlist : (fin t).L = List.range t.length := hg.sh.list
  have hti : TiL t := hg.g.ti
  have hlen : t.length ≤ i + 2 := hg.g.len
  have htl : (textT t).length ≤ t.length * (60 * (i + 1)) := textN_len hg.g _
  have htl2 : (textT t).length ≤ 42 * (60 * 41) := Nat.le_trans htl (Nat.mul_le_mul (by omega) (by omega))
  have hgd : (decide ((i : Int) ≥ 40) || !smallO (l.getD i op18Ty.dflt)) = false → i < 40 ∧ (l.getD i op18Ty.dflt).2.2.1.length ≤ 60 ∧ (l.getD i op18Ty.dflt).2.2.2.length ≤ 14 := fun h => by
   rw [Bool.or_eq_false_iff] at h
   have a1 := of_decide_eq_false h.1
   have a2 := smallO_len (o := l.getD i op18Ty.dflt) (by simpa using h.2)
   exact ⟨by omega, a2⟩
  repeat' ((conv => whnf);first|(with_reducible first|rfl|exact absTF|exact absFT)|exact True.intro|intro _|refine And.intro ?_ ?_|refine Fin.mk ?_|refine W1 rfl ?_ ?_|refine W2 rfl ?_ ?_|refine W3 rfl ?_ ?_|refine W4 ?_ ?_|refine W5 rfl ?_ ?_|refine W6 ?_ ?_|refine AppN.mk ?_|refine X1 (W1 rfl ?_ ?_)|refine X1 (W2 rfl ?_ ?_)|refine X2 (W7 rfl ?_ ?_)|refine X3 (W7 rfl ?_ ?_)|refine X4 (W7 rfl ?_ ?_)|refine X5 (W7 rfl ?_ ?_))
  all_goals (try (conv => whnf))
  all_goals (try first|exact obA|refine Ob.mk ?_)
  all_goals (try simp only [Int.toNat_natCast] at *)
  all_goals (try (have hil : i < l.length := by have := of_decide_eq_true ‹decide ((i : Int) < (l.length : Int)) = true›; omega))
  all_goals (try (have hb3 := hgd (by assumption); obtain ⟨b1, b2, b3⟩ := hb3))
  all_goals (try exact hg.g.pre (by omega) b2 b3)
  all_goals (try (have hn := hg.step (o := l.getD i op18Ty.dflt) (by omega) b2 b3; obtain ⟨hn, hx⟩ := hn))
  all_goals (try (show t.length ≤ 45; omega))
  all_goals (try (show (textT t).length + (l.getD i op18Ty.dflt).2.2.1.length ≤ _; omega))
  all_goals (try (exfalso; have q1 := eq6 (o := l.getD i op18Ty.dflt) (by assumption); have q2 := beq_iff_eq.1 q1; have q3 : ((l.getD i op18Ty.dflt).1 == 1) = true := by assumption; rw [q2] at q3; cases q3))
  all_goals (try (refine Rnd.mk ⟨i + 1, ⟨by omega, by omega, by rw [hsucc hil]; exact hn⟩, by omega, ?_⟩; rw [hsucc hil, hx]))
  all_goals (try (have hp := putX1 (o := l.getD i op18Ty.dflt) (by assumption); rw [hp]))
  all_goals (try (have hp := putX0 (o := l.getD i op18Ty.dflt) (by assumption); rw [hp, List.append_nil]))
  all_goals (try (have h6 := ne6 (o := l.getD i op18Ty.dflt) (by assumption); rw [show stepJ (t, op, fo) (l.getD i op18Ty.dflt) = doneT (t, op, fo) (l.getD i op18Ty.dflt) by unfold stepJ; rw [h6]; rfl]))
  all_goals (try (have h6 := eq6 (o := l.getD i op18Ty.dflt) (by assumption); rw [show stepJ (t, op, fo) (l.getD i op18Ty.dflt) = (t, op, fo) by unfold stepJ; rw [h6]; rfl]))
  repeat' ((conv => whnf);first|(with_reducible first|rfl|exact absTF|exact absFT)|exact True.intro|intro _|refine And.intro ?_ ?_|refine Fin.mk ?_|refine W1 rfl ?_ ?_|refine W2 rfl ?_ ?_|refine W3 rfl ?_ ?_|refine W4 ?_ ?_|refine W5 rfl ?_ ?_|refine W6 ?_ ?_|refine AppN.mk ?_|refine X1 (W1 rfl ?_ ?_)|refine X1 (W2 rfl ?_ ?_)|refine X2 (W7 rfl ?_ ?_)|refine X3 (W7 rfl ?_ ?_)|refine X4 (W7 rfl ?_ ?_)|refine X5 (W7 rfl ?_ ?_))
  all_goals (try (conv => whnf))
  all_goals (try first|exact obA|refine Ob.mk ?_)
  all_goals (try rfl)
  all_goals
   all_goals (try rw [hlist] at *)
   refine LoopStop.mk (α := Nat) (fun a => [(63, .int .i64 a), (8, .str (textN t a))]) (fun _ => []) 160 (fun a => a ≤ t.length) (fun a => t.length - a) 0 (Nat.zero_le _) ?_ (fun a ha => ?_)
   ·all_goals exact vcA
   ·have hta := textN_len hg.g a
    have hda : ∀ x : Int, (nd t x).2.2.2.2.1.length ≤ 3000 := fun x => Nat.le_trans (hg.g.all x).2.2 (by omega)
    have hda2 : (t.getD a nodeTy.dflt).2.2.2.2.1.length ≤ 3000 := by have := hda (a : Int); unfold nd at this; rw [Int.toNat_natCast] at this; exact this
    have hnat : a < t.length → (natI (List.range t.length)).getD a intTy.dflt = (a : Int) := fun h => by unfold natI; simp [List.getD, h]
    have hlr : (natI (List.range t.length)).length = t.length := by unfold natI; simp
    have hta2 : (textN t a).length ≤ 42 * (60 * 41) := Nat.le_trans hta (Nat.mul_le_mul (by omega) (by omega))
    repeat' ((conv => whnf);first|(with_reducible first|rfl|exact absTF|exact absFT)|exact True.intro|intro _|refine And.intro ?_ ?_|refine Fin.mk ?_|refine W1 rfl ?_ ?_|refine W2 rfl ?_ ?_|refine W3 rfl ?_ ?_|refine W4 ?_ ?_|refine W5 rfl ?_ ?_|refine W6 ?_ ?_|refine AppN.mk ?_|refine X1 (W1 rfl ?_ ?_)|refine X1 (W2 rfl ?_ ?_)|refine X2 (W7 rfl ?_ ?_)|refine X3 (W7 rfl ?_ ?_)|refine X4 (W7 rfl ?_ ?_)|refine X5 (W7 rfl ?_ ?_))
    all_goals (try (conv => whnf))
    all_goals (try rw [hlr] at *)
    all_goals (try first|exact obA|refine Ob.mk ?_)
    all_goals (try simp only [Int.toNat_natCast, hlr] at *)
    all_goals (try (have hal : a < t.length := by have := of_decide_eq_true ‹decide ((a : Int) < (t.length : Int)) = true›; omega))
    all_goals (try rw [hnat hal])
    all_goals (try rw [hnat hal] at *)
    all_goals (try omega)
    all_goals (try (have hae : a = t.length := by have := of_decide_eq_false ‹decide ((a : Int) < (t.length : Int)) = false›; omega))
    all_goals (try simp only [Int.toNat_natCast] at *)
    all_goals (try (have hs1 := textN1 (t := t) (a := a) (by assumption)))
    all_goals (try (have hs0 := textN0 (t := t) (a := a) (by assumption)))
    all_goals (try (show (textN t a).length + (t.getD a nodeTy.dflt).2.2.2.2.1.length ≤ _; omega))
    all_goals (try (refine Rnd.mk ⟨a + 1, by omega, by omega, ?_⟩; first | rw [hs1] | rw [hs0]))
    repeat' ((conv => whnf);first|(with_reducible first|rfl|exact absTF|exact absFT)|exact True.intro|intro _|refine And.intro ?_ ?_|refine Fin.mk ?_|refine W1 rfl ?_ ?_|refine W2 rfl ?_ ?_|refine W3 rfl ?_ ?_|refine W4 ?_ ?_|refine W5 rfl ?_ ?_|refine W6 ?_ ?_|refine AppN.mk ?_|refine X1 (W1 rfl ?_ ?_)|refine X1 (W2 rfl ?_ ?_)|refine X2 (W7 rfl ?_ ?_)|refine X3 (W7 rfl ?_ ?_)|refine X4 (W7 rfl ?_ ?_)|refine X5 (W7 rfl ?_ ?_))
    all_goals (try (conv => whnf))
    all_goals (try first|exact obA|refine Ob.mk ?_)
    all_goals (first | rfl | (rw [hae]; show (textT t == textT t && true) = true; rw [beq_self_eq_true]; rfl) | trace_state)
end Go.Vc

namespace Go.Vc
open Go.Proofs
set_option maxRecDepth 100000
theorem base_ok (W : World) (hsh : W.ShapedOpen Tryz.prog) : BB.G fun b => W.heap[b]? := by
 obtain ⟨m, hm⟩ := Go.Proofs.cell_of_shapedOpen_int (g := 0) (zero := #[.int .i64 0]) (t := 3) hsh (of_decide_eq_true (by kernel_rfl)) (by kernel_rfl) rfl (by kernel_rfl) (by kernel_rfl) Tryz.underlying3
 have hm' : W.cell? ⟨0, 0, none⟩ = some (.int .i64 m) := hm
 unfold World.cell? at hm'
 show ∃ c T fr m, W.heap[0]? = some (.cells c T fr) ∧ c[0]? = some (.int .i64 m)
 cases h : W.heap[0]? with
 | none => simp [h] at hm'
 | some o =>
  cases o with
  | cells c T fr => exact ⟨c, T, fr, m, rfl, by simpa [h] using hm'⟩
  | _ => simp [h] at hm'
end Go.Vc
