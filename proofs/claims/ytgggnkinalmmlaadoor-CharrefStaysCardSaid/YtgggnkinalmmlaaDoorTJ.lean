/- A part of the proof: lemmas and walks that the last text of the claim joins; no condition. -/
import Derived.Test.YtgggnkinalmmlaaDoorTI
import Derived.Lib.IndexMore
import Derived.Lib.Replace
import Derived.Lib.CountLaws
import Derived.Lib.LaidU8T
import Derived.PinnedBridge
import Derived.Test.YtgggnkinalmmlaaDoorRows
set_option linter.unusedVariables false
set_option linter.unusedSimpArgs false
namespace Go.Vc
open Go.Proofs
set_option linter.unusedVariables false
set_option maxRecDepth 10000
set_option linter.unusedSimpArgs false
theorem take_snoc {α : Type} (l : List α) (i : Nat) (d : α) (h : i < l.length) : l.take (i + 1) = l.take i ++ [l.getD i d] := by
  rw [List.take_succ_eq_append_getElem h]; simp [List.getD, List.getElem?_eq_getElem h]
theorem drop_take_one (s : List UInt8) (i : Nat) (h : i < s.length) : (s.take (i+1)).drop i = [s.getD i 0] := by
  rw [take_snoc s i 0 h, List.drop_append, List.length_take, Nat.min_eq_left (by omega)]; simp
theorem ti1 (i : Nat) : ((i : Int) + 1).toNat = i + 1 := by omega
theorem ti2 (i : Nat) : ((i : Int) + 2).toNat = i + 2 := by omega
theorem upto_def (s : List UInt8) (n : Nat) : List.drop 1 (List.take (n + 1) s) = upto s n := rfl
theorem u8n_38 (c : UInt8) : ((c.toNat : Int) != 38) = (c != 38) := by simp only [bne, u8_38]
theorem rdP_bad {s : List UInt8} {v : Bool} (h : s.length < 2 ∨ ¬ s.getD 0 0 = 38) : rdP s v = ([], 0) := by unfold rdP; exact if_pos h
theorem rdP_go {s : List UInt8} {v : Bool} (h : 2 ≤ s.length ∧ s.getD 0 0 = 38) : rdP s v = if s.getD 1 0 = 35 then numberF s
    else if semiOk s (letN 8 (s.drop 1)) = true then ((named (upto s (letN 8 (s.drop 1) + 1))).1, (letN 8 (s.drop 1) : Int) + 2) else rdLoop s v (letN 8 (s.drop 1)) := by
  unfold rdP
  exact if_neg (by rintro (g | g); omega; exact g h.2)
theorem rdP_num {s : List UInt8} {v : Bool} (h : 2 ≤ s.length ∧ s.getD 0 0 = 38) (h1 : s.getD 1 0 = 35) : rdP s v = numberF s := by
  rw [rdP_go h, if_pos h1]
theorem rdP_semi {s : List UInt8} {v : Bool} (h : 2 ≤ s.length ∧ s.getD 0 0 = 38) (h1 : ¬ s.getD 1 0 = 35) {L : Nat} (hL : L = letN 8 (s.drop 1)) (h2 : L + 1 < s.length ∧ s.getD (L + 1) 0 = 59) (h3 : (named (upto s (L + 1))).2 = true) :
    rdP s v = ((named (upto s (L + 1))).1, (L : Int) + 2) := by
  subst hL
  rw [rdP_go h, if_neg h1, if_pos]
  simp only [semiOk, Bool.and_eq_true, decide_eq_true_eq, beq_iff_eq]
  exact ⟨h2.1, h2.2, h3⟩
theorem rdP_loop {s : List UInt8} {v : Bool} (h : 2 ≤ s.length ∧ s.getD 0 0 = 38) (h1 : ¬ s.getD 1 0 = 35) {L : Nat} (hL : L = letN 8 (s.drop 1)) (h2 : ¬ (L + 1 < s.length ∧ s.getD (L + 1) 0 = 59 ∧ (named (upto s (L + 1))).2 = true)) :
    rdP s v = rdLoop s v L := by
  subst hL
  rw [rdP_go h, if_neg h1, if_neg]
  simp only [semiOk, Bool.and_eq_true, decide_eq_true_eq, beq_iff_eq]
  exact h2
theorem stop_eq (s : List UInt8) (v : Bool) (n : Nat) : (v && decide ((n : Int) + 1 < (s.length : Int)) && (((s.getD (n + 1) 0).toNat : Int) == 61 || decide ((letN 8 (s.drop (n + 1)) : Int) > 0))) = stopV s v n := by
  have e : decide ((letN 8 (s.drop (n + 1)) : Int) > 0) = decide (letN 8 (s.drop (n + 1)) > 0) := by rw [decide_eq_decide]; omega
  have e2 : decide ((n : Int) + 1 < (s.length : Int)) = decide (n + 1 < s.length) := by rw [decide_eq_decide]; omega
  rw [u8_61, e, e2, letN_pos (by omega), stopV]
  by_cases h : n + 1 < s.length
  · have h1 : decide (0 < (s.drop (n + 1)).length) = true := decide_eq_true (by rw [List.length_drop]; omega)
    have h2 : (s.drop (n + 1)).getD 0 0 = s.getD (n + 1) 0 := by simp [List.getD]
    rw [h1, h2, Bool.true_and, decide_eq_true h]
    cases v <;> rfl
  · rw [decide_eq_false h]
    cases v <;> rfl
theorem rdL_no {s : List UInt8} {v : Bool} {n : Nat} (h0 : 0 < n) (h : (named (upto s n)).2 = false) : rdLoop s v n = rdLoop s v (n - 1) := by
  obtain ⟨m, rfl⟩ : ∃ m, n = m + 1 := ⟨n - 1, by omega⟩
  rw [rdLoop, if_pos h]; rfl
theorem rdL_stop {s : List UInt8} {v : Bool} {n : Nat} (h0 : 0 < n) (h : (named (upto s n)).2 = true) (h2 : stopV s v n = true) : rdLoop s v n = ([], 0) := by
  obtain ⟨m, rfl⟩ : ∃ m, n = m + 1 := ⟨n - 1, by omega⟩
  rw [rdLoop, if_neg (by rw [h]; simp), if_pos h2]
theorem rdL_yes {s : List UInt8} {v : Bool} {n : Nat} (h0 : 0 < n) (h : (named (upto s n)).2 = true) (h2 : stopV s v n = false) : rdLoop s v n = ((named (upto s n)).1, (n : Int) + 1) := by
  obtain ⟨m, rfl⟩ : ∃ m, n = m + 1 := ⟨n - 1, by omega⟩
  rw [rdLoop, if_neg (by rw [h]; simp), if_neg (by rw [h2]; simp)]
  congr 1
instance fRead (s : List UInt8) (v : Bool) : Fn BB 75 [.str s, .bool v] (s.length ≤ 100000) (.tup [.str (rdP s v).1, .int .i64 (rdP s v).2]) := by
  refine Fn.intro (N := 93) [0, 1, 4, 5, 6, 7, 8, 9, 10, 18, 21, 40, 49, 54, 66, 89] [] Tryd.call75 Tryd.func75 rfl rfl (by kernel_rfl) (fun hpre => ?_)
  obtain ⟨g1, g2, g3⟩ := letN_le 8 (s.drop 1)
  simp only [List.length_drop] at g2
  repeat' ((conv => whnf); first | (with_reducible rfl) | exact True.intro | (with_reducible exact absTF) | (with_reducible exact absFT) | intro _ | refine And.intro ?_ ?_ | refine Fin.mk ?_ | refine CallG.plain rfl ?_ ?_ | refine CallG.mk rfl ?_ ?_ | refine CallG.nwl rfl ?_ ?_ | refine CallG.nw ?_ ?_ | refine CallF.nwl rfl ?_ ?_ | refine CallF.nw ?_ ?_ | refine AppN.mk ?_ | (refine CallS.q ?_; (conv => whnf); first | refine CallG.plain rfl ?_ ?_ | refine CallG.mk rfl ?_ ?_) | (refine CallS.m ?_; (conv => whnf); refine CallM.mk rfl ?_ ?_) | (refine CallS.h ?_; (conv => whnf); refine CallM.mk rfl ?_ ?_) | (refine CallS.b ?_; (conv => whnf); refine CallM.mk rfl ?_ ?_) | (refine CallS.z ?_; (conv => whnf); refine CallM.mk rfl ?_ ?_))
  all_goals (try (conv => whnf))
  all_goals (try (exact Ob.mk (u8_bnd _)))
  all_goals (try (refine Ob.mk ?_; first | exact True.intro | assumption | omega | (try simp only [decide_eq_true_eq, decide_eq_false_iff_not, beq_iff_eq, beq_eq_false_iff_ne, bne_iff_ne, bne_eq_false_iff_eq, ne_eq, Bool.and_eq_true, Bool.or_eq_true, Bool.not_eq_true, Bool.not_eq_false, Bool.not_eq_true', Bool.not_eq_false', Int.toNat_natCast, Int.not_lt, Int.not_le, UInt8.ofNat_toNat, cast_eq] at *; omega)))
  all_goals (try ((show (_:Int) = _); omega))
  all_goals (try (show tupSV _ = _; with_unfolding_all rfl))
  all_goals (try ((show (_ : Nat) ≤ _); (simp <;> omega)))
  all_goals (try ((show (_ : Nat) ≤ _ ∧ (_ : Nat) ≤ _); (simp <;> omega)))
  all_goals (try ((show (_ : Int) ≤ _ ∧ (_ : Int) ≤ _ ∧ (_ : Int) ≤ _ ∧ (_ : Int) ≤ _); (simp <;> omega)))
  all_goals (try (simp only [Int.toNat_natCast, Int.reduceToNat, Ty.dflt, cast_eq] at *))
  all_goals (try (simp only [ti1, ti2, upto_def, u8_38, u8n_38, u8_59, u8_35] at *))
  all_goals (try simp only [decide_eq_true_eq, decide_eq_false_iff_not, beq_iff_eq, beq_eq_false_iff_ne, bne_iff_ne, bne_eq_false_iff_eq, ne_eq, Bool.and_eq_true, Bool.or_eq_true, Bool.and_eq_false_iff, Bool.or_eq_false_iff, Bool.not_eq_true, Bool.not_eq_false, Bool.not_eq_true', Bool.not_eq_false', Int.toNat_natCast, Int.not_lt, Int.not_le, ge_iff_le, gt_iff_lt, UInt8.ofNat_toNat, cast_eq] at *)
  all_goals (try omega)
  all_goals (try (rw [rdP_bad (by rcases ‹_ ∨ ¬ _› with g | g; exact .inl (by omega); exact .inr g)]; done))
  all_goals (try (have hgo : 2 ≤ s.length ∧ s.getD 0 0 = 38 := ⟨by have := ‹2 ≤ (s.length : Int) ∧ _›.1; omega, ‹2 ≤ (s.length : Int) ∧ _›.2⟩))
  all_goals (try (rw [rdP_num hgo ‹_›]; done))
  all_goals (try (rw [rdP_semi hgo ‹¬ _› rfl ⟨by have := ‹_ ∧ s.getD _ 0 = 59›.1; omega, ‹_ ∧ s.getD _ 0 = 59›.2⟩ ‹_›]; done))
  · have hR := rdP_loop (v := v) hgo ‹¬ _› rfl (by rintro ⟨_, _, q⟩; rw [‹(named _).2 = false›] at q; cases q)
    refine LoopStop.mk (α := Nat) (fun i => [(6, .int .i64 i)]) (fun _ => []) 0 (fun i => i ≤ letN 8 (s.drop 1) ∧ rdP s v = rdLoop s v i) (fun i => i) (letN 8 (s.drop 1)) ⟨Nat.le_refl _, hR⟩ ?_ (fun i hi => ?_)
    · repeat' ((conv => whnf); first | (with_reducible rfl) | exact True.intro | (with_reducible exact absTF) | (with_reducible exact absFT) | intro _ | refine And.intro ?_ ?_ | refine Fin.mk ?_ | refine CallG.plain rfl ?_ ?_ | refine CallG.mk rfl ?_ ?_ | refine CallG.nwl rfl ?_ ?_ | refine CallG.nw ?_ ?_ | refine CallF.nwl rfl ?_ ?_ | refine CallF.nw ?_ ?_ | refine AppN.mk ?_ | (refine CallS.q ?_; (conv => whnf); first | refine CallG.plain rfl ?_ ?_ | refine CallG.mk rfl ?_ ?_) | (refine CallS.m ?_; (conv => whnf); refine CallM.mk rfl ?_ ?_) | (refine CallS.h ?_; (conv => whnf); refine CallM.mk rfl ?_ ?_) | (refine CallS.b ?_; (conv => whnf); refine CallM.mk rfl ?_ ?_) | (refine CallS.z ?_; (conv => whnf); refine CallM.mk rfl ?_ ?_))
      all_goals (try (conv => whnf))
      all_goals (try (exact Ob.mk (u8_bnd _)))
      all_goals (try (refine Ob.mk ?_; first | exact True.intro | assumption | omega | (try simp only [decide_eq_true_eq, decide_eq_false_iff_not, beq_iff_eq, beq_eq_false_iff_ne, bne_iff_ne, bne_eq_false_iff_eq, ne_eq, Bool.and_eq_true, Bool.or_eq_true, Bool.not_eq_true, Bool.not_eq_false, Bool.not_eq_true', Bool.not_eq_false', Int.toNat_natCast, Int.not_lt, Int.not_le, UInt8.ofNat_toNat, cast_eq] at *; omega)))
      all_goals (try ((show (_:Int) = _); omega))
      all_goals (try (show tupSV _ = _; with_unfolding_all rfl))
      all_goals (try ((show (_ : Nat) ≤ _); (simp <;> omega)))
      all_goals (try ((show (_ : Nat) ≤ _ ∧ (_ : Nat) ≤ _); (simp <;> omega)))
      all_goals (try ((show (_ : Int) ≤ _ ∧ (_ : Int) ≤ _ ∧ (_ : Int) ≤ _ ∧ (_ : Int) ≤ _); (simp <;> omega)))
      all_goals (try rfl)
    · obtain ⟨i1, i2⟩ := hi
      repeat' ((conv => whnf); first | (with_reducible rfl) | exact True.intro | (with_reducible exact absTF) | (with_reducible exact absFT) | intro _ | refine And.intro ?_ ?_ | refine Fin.mk ?_ | refine CallG.plain rfl ?_ ?_ | refine CallG.mk rfl ?_ ?_ | refine CallG.nwl rfl ?_ ?_ | refine CallG.nw ?_ ?_ | refine CallF.nwl rfl ?_ ?_ | refine CallF.nw ?_ ?_ | refine AppN.mk ?_ | (refine CallS.q ?_; (conv => whnf); first | refine CallG.plain rfl ?_ ?_ | refine CallG.mk rfl ?_ ?_) | (refine CallS.m ?_; (conv => whnf); refine CallM.mk rfl ?_ ?_) | (refine CallS.h ?_; (conv => whnf); refine CallM.mk rfl ?_ ?_) | (refine CallS.b ?_; (conv => whnf); refine CallM.mk rfl ?_ ?_) | (refine CallS.z ?_; (conv => whnf); refine CallM.mk rfl ?_ ?_))
      all_goals (try (conv => whnf))
      all_goals (try (exact Ob.mk (u8_bnd _)))
      all_goals (try (refine Ob.mk ?_; first | exact True.intro | assumption | omega | (try simp only [decide_eq_true_eq, decide_eq_false_iff_not, beq_iff_eq, beq_eq_false_iff_ne, bne_iff_ne, bne_eq_false_iff_eq, ne_eq, Bool.and_eq_true, Bool.or_eq_true, Bool.not_eq_true, Bool.not_eq_false, Bool.not_eq_true', Bool.not_eq_false', Int.toNat_natCast, Int.not_lt, Int.not_le, UInt8.ofNat_toNat, cast_eq] at *; omega)))
      all_goals (try ((show (_:Int) = _); omega))
      all_goals (try (show tupSV _ = _; with_unfolding_all rfl))
      all_goals (try ((show (_ : Nat) ≤ _); (simp <;> omega)))
      all_goals (try ((show (_ : Nat) ≤ _ ∧ (_ : Nat) ≤ _); (simp <;> omega)))
      all_goals (try ((show (_ : Int) ≤ _ ∧ (_ : Int) ≤ _ ∧ (_ : Int) ≤ _ ∧ (_ : Int) ≤ _); (simp <;> omega)))
      all_goals (try (simp only [Int.toNat_natCast, Int.reduceToNat, Ty.dflt, cast_eq] at *))
      all_goals (try (simp only [ti1, ti2, upto_def, stop_eq] at *))
      all_goals (try simp only [decide_eq_true_eq, decide_eq_false_iff_not, beq_iff_eq, beq_eq_false_iff_ne, bne_iff_ne, bne_eq_false_iff_eq, ne_eq, Bool.and_eq_true, Bool.or_eq_true, Bool.and_eq_false_iff, Bool.or_eq_false_iff, Bool.not_eq_true, Bool.not_eq_false, Bool.not_eq_true', Bool.not_eq_false', Int.toNat_natCast, Int.not_lt, Int.not_le, ge_iff_le, gt_iff_lt, UInt8.ofNat_toNat, cast_eq] at *)
      all_goals (try omega)
      all_goals (first | (have h0 : 0 < i := by omega) | (have h0 : i = 0 := by omega))
      all_goals (try (rw [i2, rdL_stop h0 ‹_› ‹_›]; done))
      all_goals (try (rw [i2, rdL_yes h0 ‹_› ‹_›]; done))
      all_goals (try (rw [i2, h0]; rfl))
      refine Rnd.mk ⟨i - 1, ?_, ?_, ?_⟩
      · exact ⟨by omega, by rw [i2, rdL_no h0 ‹_›]⟩
      · omega
      · repeat' ((conv => whnf); first | (with_reducible rfl) | exact True.intro | (with_reducible exact absTF) | (with_reducible exact absFT) | intro _ | refine And.intro ?_ ?_ | refine Fin.mk ?_ | refine CallG.plain rfl ?_ ?_ | refine CallG.mk rfl ?_ ?_ | refine CallG.nwl rfl ?_ ?_ | refine CallG.nw ?_ ?_ | refine CallF.nwl rfl ?_ ?_ | refine CallF.nw ?_ ?_ | refine AppN.mk ?_ | (refine CallS.q ?_; (conv => whnf); first | refine CallG.plain rfl ?_ ?_ | refine CallG.mk rfl ?_ ?_) | (refine CallS.m ?_; (conv => whnf); refine CallM.mk rfl ?_ ?_) | (refine CallS.h ?_; (conv => whnf); refine CallM.mk rfl ?_ ?_) | (refine CallS.b ?_; (conv => whnf); refine CallM.mk rfl ?_ ?_) | (refine CallS.z ?_; (conv => whnf); refine CallM.mk rfl ?_ ?_))
        all_goals (try (conv => whnf))
        all_goals (try (exact Ob.mk (u8_bnd _)))
        all_goals (try (refine Ob.mk ?_; first | exact True.intro | assumption | omega | (try simp only [decide_eq_true_eq, decide_eq_false_iff_not, beq_iff_eq, beq_eq_false_iff_ne, bne_iff_ne, bne_eq_false_iff_eq, ne_eq, Bool.and_eq_true, Bool.or_eq_true, Bool.not_eq_true, Bool.not_eq_false, Bool.not_eq_true', Bool.not_eq_false', Int.toNat_natCast, Int.not_lt, Int.not_le, UInt8.ofNat_toNat, cast_eq] at *; omega)))
        all_goals (try ((show (_:Int) = _); omega))
        all_goals (try (show tupSV _ = _; with_unfolding_all rfl))
        all_goals (try ((show (_ : Nat) ≤ _); (simp <;> omega)))
        all_goals (try ((show (_ : Nat) ≤ _ ∧ (_ : Nat) ≤ _); (simp <;> omega)))
        all_goals (try ((show (_ : Int) ≤ _ ∧ (_ : Int) ≤ _ ∧ (_ : Int) ≤ _ ∧ (_ : Int) ≤ _); (simp <;> omega)))
  · have hR := rdP_loop (v := v) hgo ‹¬ _› rfl (by rintro ⟨q1, q2, _⟩; rcases ‹_ ∨ ¬ _› with g | g; omega; exact g q2)
    refine LoopStop.mk (α := Nat) (fun i => [(6, .int .i64 i)]) (fun _ => []) 0 (fun i => i ≤ letN 8 (s.drop 1) ∧ rdP s v = rdLoop s v i) (fun i => i) (letN 8 (s.drop 1)) ⟨Nat.le_refl _, hR⟩ ?_ (fun i hi => ?_)
    · repeat' ((conv => whnf); first | (with_reducible rfl) | exact True.intro | (with_reducible exact absTF) | (with_reducible exact absFT) | intro _ | refine And.intro ?_ ?_ | refine Fin.mk ?_ | refine CallG.plain rfl ?_ ?_ | refine CallG.mk rfl ?_ ?_ | refine CallG.nwl rfl ?_ ?_ | refine CallG.nw ?_ ?_ | refine CallF.nwl rfl ?_ ?_ | refine CallF.nw ?_ ?_ | refine AppN.mk ?_ | (refine CallS.q ?_; (conv => whnf); first | refine CallG.plain rfl ?_ ?_ | refine CallG.mk rfl ?_ ?_) | (refine CallS.m ?_; (conv => whnf); refine CallM.mk rfl ?_ ?_) | (refine CallS.h ?_; (conv => whnf); refine CallM.mk rfl ?_ ?_) | (refine CallS.b ?_; (conv => whnf); refine CallM.mk rfl ?_ ?_) | (refine CallS.z ?_; (conv => whnf); refine CallM.mk rfl ?_ ?_))
      all_goals (try (conv => whnf))
      all_goals (try (exact Ob.mk (u8_bnd _)))
      all_goals (try (refine Ob.mk ?_; first | exact True.intro | assumption | omega | (try simp only [decide_eq_true_eq, decide_eq_false_iff_not, beq_iff_eq, beq_eq_false_iff_ne, bne_iff_ne, bne_eq_false_iff_eq, ne_eq, Bool.and_eq_true, Bool.or_eq_true, Bool.not_eq_true, Bool.not_eq_false, Bool.not_eq_true', Bool.not_eq_false', Int.toNat_natCast, Int.not_lt, Int.not_le, UInt8.ofNat_toNat, cast_eq] at *; omega)))
      all_goals (try ((show (_:Int) = _); omega))
      all_goals (try (show tupSV _ = _; with_unfolding_all rfl))
      all_goals (try ((show (_ : Nat) ≤ _); (simp <;> omega)))
      all_goals (try ((show (_ : Nat) ≤ _ ∧ (_ : Nat) ≤ _); (simp <;> omega)))
      all_goals (try ((show (_ : Int) ≤ _ ∧ (_ : Int) ≤ _ ∧ (_ : Int) ≤ _ ∧ (_ : Int) ≤ _); (simp <;> omega)))
      all_goals (try rfl)
    · obtain ⟨i1, i2⟩ := hi
      repeat' ((conv => whnf); first | (with_reducible rfl) | exact True.intro | (with_reducible exact absTF) | (with_reducible exact absFT) | intro _ | refine And.intro ?_ ?_ | refine Fin.mk ?_ | refine CallG.plain rfl ?_ ?_ | refine CallG.mk rfl ?_ ?_ | refine CallG.nwl rfl ?_ ?_ | refine CallG.nw ?_ ?_ | refine CallF.nwl rfl ?_ ?_ | refine CallF.nw ?_ ?_ | refine AppN.mk ?_ | (refine CallS.q ?_; (conv => whnf); first | refine CallG.plain rfl ?_ ?_ | refine CallG.mk rfl ?_ ?_) | (refine CallS.m ?_; (conv => whnf); refine CallM.mk rfl ?_ ?_) | (refine CallS.h ?_; (conv => whnf); refine CallM.mk rfl ?_ ?_) | (refine CallS.b ?_; (conv => whnf); refine CallM.mk rfl ?_ ?_) | (refine CallS.z ?_; (conv => whnf); refine CallM.mk rfl ?_ ?_))
      all_goals (try (conv => whnf))
      all_goals (try (exact Ob.mk (u8_bnd _)))
      all_goals (try (refine Ob.mk ?_; first | exact True.intro | assumption | omega | (try simp only [decide_eq_true_eq, decide_eq_false_iff_not, beq_iff_eq, beq_eq_false_iff_ne, bne_iff_ne, bne_eq_false_iff_eq, ne_eq, Bool.and_eq_true, Bool.or_eq_true, Bool.not_eq_true, Bool.not_eq_false, Bool.not_eq_true', Bool.not_eq_false', Int.toNat_natCast, Int.not_lt, Int.not_le, UInt8.ofNat_toNat, cast_eq] at *; omega)))
      all_goals (try ((show (_:Int) = _); omega))
      all_goals (try (show tupSV _ = _; with_unfolding_all rfl))
      all_goals (try ((show (_ : Nat) ≤ _); (simp <;> omega)))
      all_goals (try ((show (_ : Nat) ≤ _ ∧ (_ : Nat) ≤ _); (simp <;> omega)))
      all_goals (try ((show (_ : Int) ≤ _ ∧ (_ : Int) ≤ _ ∧ (_ : Int) ≤ _ ∧ (_ : Int) ≤ _); (simp <;> omega)))
      all_goals (try (simp only [Int.toNat_natCast, Int.reduceToNat, Ty.dflt, cast_eq] at *))
      all_goals (try (simp only [ti1, ti2, upto_def, stop_eq] at *))
      all_goals (try simp only [decide_eq_true_eq, decide_eq_false_iff_not, beq_iff_eq, beq_eq_false_iff_ne, bne_iff_ne, bne_eq_false_iff_eq, ne_eq, Bool.and_eq_true, Bool.or_eq_true, Bool.and_eq_false_iff, Bool.or_eq_false_iff, Bool.not_eq_true, Bool.not_eq_false, Bool.not_eq_true', Bool.not_eq_false', Int.toNat_natCast, Int.not_lt, Int.not_le, ge_iff_le, gt_iff_lt, UInt8.ofNat_toNat, cast_eq] at *)
      all_goals (try omega)
      all_goals (first | (have h0 : 0 < i := by omega) | (have h0 : i = 0 := by omega))
      all_goals (try (rw [i2, rdL_stop h0 ‹_› ‹_›]; done))
      all_goals (try (rw [i2, rdL_yes h0 ‹_› ‹_›]; done))
      all_goals (try (rw [i2, h0]; rfl))
      refine Rnd.mk ⟨i - 1, ?_, ?_, ?_⟩
      · exact ⟨by omega, by rw [i2, rdL_no h0 ‹_›]⟩
      · omega
      · repeat' ((conv => whnf); first | (with_reducible rfl) | exact True.intro | (with_reducible exact absTF) | (with_reducible exact absFT) | intro _ | refine And.intro ?_ ?_ | refine Fin.mk ?_ | refine CallG.plain rfl ?_ ?_ | refine CallG.mk rfl ?_ ?_ | refine CallG.nwl rfl ?_ ?_ | refine CallG.nw ?_ ?_ | refine CallF.nwl rfl ?_ ?_ | refine CallF.nw ?_ ?_ | refine AppN.mk ?_ | (refine CallS.q ?_; (conv => whnf); first | refine CallG.plain rfl ?_ ?_ | refine CallG.mk rfl ?_ ?_) | (refine CallS.m ?_; (conv => whnf); refine CallM.mk rfl ?_ ?_) | (refine CallS.h ?_; (conv => whnf); refine CallM.mk rfl ?_ ?_) | (refine CallS.b ?_; (conv => whnf); refine CallM.mk rfl ?_ ?_) | (refine CallS.z ?_; (conv => whnf); refine CallM.mk rfl ?_ ?_))
        all_goals (try (conv => whnf))
        all_goals (try (exact Ob.mk (u8_bnd _)))
        all_goals (try (refine Ob.mk ?_; first | exact True.intro | assumption | omega | (try simp only [decide_eq_true_eq, decide_eq_false_iff_not, beq_iff_eq, beq_eq_false_iff_ne, bne_iff_ne, bne_eq_false_iff_eq, ne_eq, Bool.and_eq_true, Bool.or_eq_true, Bool.not_eq_true, Bool.not_eq_false, Bool.not_eq_true', Bool.not_eq_false', Int.toNat_natCast, Int.not_lt, Int.not_le, UInt8.ofNat_toNat, cast_eq] at *; omega)))
        all_goals (try ((show (_:Int) = _); omega))
        all_goals (try (show tupSV _ = _; with_unfolding_all rfl))
        all_goals (try ((show (_ : Nat) ≤ _); (simp <;> omega)))
        all_goals (try ((show (_ : Nat) ≤ _ ∧ (_ : Nat) ≤ _); (simp <;> omega)))
        all_goals (try ((show (_ : Int) ≤ _ ∧ (_ : Int) ≤ _ ∧ (_ : Int) ≤ _ ∧ (_ : Int) ≤ _); (simp <;> omega)))
theorem rdR_bad {s : List UInt8} {v : Bool} (h : s = [] ∨ ¬ s.getD 0 0 = 38) : rdR s v = ([], 0) := by unfold rdR; exact if_pos h
theorem rdR_num {s : List UInt8} {v : Bool} (h : ¬ s = [] ∧ s.getD 0 0 = 38) (h1 : 1 < s.length ∧ s.getD 1 0 = 35) : rdR s v = numberF s := by
  unfold rdR; refine (if_neg (by rintro (g | g); exact h.1 g; exact g h.2)).trans ?_; exact if_pos h1
theorem rdR_loop {s : List UInt8} {v : Bool} (h : ¬ s = [] ∧ s.getD 0 0 = 38) (h1 : ¬ (1 < s.length ∧ s.getD 1 0 = 35)) : rdR s v = refLoop s v (min (s.length - 1) 12) := by
  unfold rdR; refine (if_neg (by rintro (g | g); exact h.1 g; exact g h.2)).trans ?_; exact if_neg h1
theorem u8n_59 (c : UInt8) : ((c.toNat : Int) != 59) = (c != 59) := by simp only [bne, u8_59]
theorem stop_eq2 (s : List UInt8) (v : Bool) (n : Nat) : (v && s.getD n 0 != 59 && decide ((n : Int) + 1 < (s.length : Int)) && (s.getD (n + 1) 0 == 61 || anI ((s.getD (n + 1) 0).toNat : Int))) = (stopV s v n && s.getD n 0 != 59) := by
  have e2 : decide ((n : Int) + 1 < (s.length : Int)) = decide (n + 1 < s.length) := by rw [decide_eq_decide]; omega
  rw [e2]
  unfold stopV
  show (v && s.getD n 0 != 59 && decide (n + 1 < s.length) && (s.getD (n + 1) 0 == 61 || anB (s.getD (n + 1) 0))) = _
  cases v <;> cases (s.getD n 0 != 59) <;> cases decide (n + 1 < s.length) <;> simp
theorem rfL_no {s : List UInt8} {v : Bool} {n : Nat} (h0 : 0 < n) (h : (named (upto s n)).2 = false) : refLoop s v n = refLoop s v (n - 1) := by
  obtain ⟨m, rfl⟩ : ∃ m, n = m + 1 := ⟨n - 1, by omega⟩
  rw [refLoop, if_pos h]; rfl
theorem rfL_stop {s : List UInt8} {v : Bool} {n : Nat} (h0 : 0 < n) (h : (named (upto s n)).2 = true) (h2 : stopV s v n = true ∧ ¬ s.getD n 0 = 59) : refLoop s v n = ([], 0) := by
  obtain ⟨m, rfl⟩ : ∃ m, n = m + 1 := ⟨n - 1, by omega⟩
  rw [refLoop, if_neg (by rw [h]; simp), if_pos (by simpa using h2)]
theorem rfL_yes {s : List UInt8} {v : Bool} {n : Nat} (h0 : 0 < n) (h : (named (upto s n)).2 = true) (h2 : stopV s v n = false ∨ s.getD n 0 = 59) : refLoop s v n = ((named (upto s n)).1, (n : Int) + 1) := by
  obtain ⟨m, rfl⟩ : ∃ m, n = m + 1 := ⟨n - 1, by omega⟩
  rw [refLoop, if_neg (by rw [h]; simp), if_neg (by rw [Bool.and_eq_true, bne_iff_ne]; rintro ⟨q1, q2⟩; rcases h2 with h2 | h2; rw [q1] at h2; cases h2; exact q2 h2)]
  congr 1
theorem dec_inv {s out : List UInt8} {v : Bool} {i : Nat} (h : i < s.length) (hd : out ++ decF (s.drop i) v = decF s v) :
    (¬ (rdP (s.drop i) v).2 = 0 → (out ++ (rdP (s.drop i) v).1) ++ decF (s.drop (i + (rdP (s.drop i) v).2.toNat)) v = decF s v) ∧
    ((rdP (s.drop i) v).2 = 0 → (out ++ [s.getD i 0]) ++ decF (s.drop (i + 1)) v = decF s v) := by
  have hne : s.drop i ≠ [] := fun h' => by have := congrArg List.length h'; simp at this; omega
  rw [decF_step v hne] at hd
  refine ⟨fun h0 => ?_, fun h0 => ?_⟩
  · rw [if_neg h0, List.drop_drop] at hd
    rw [← hd, List.append_assoc]
  · rw [if_pos h0, List.drop_drop] at hd
    rw [← hd, List.append_assoc]
    simp [List.getD]
instance fDec (s : List UInt8) (v : Bool) : Fn BB 35 [.str s, .bool v] (s.length ≤ 100000) (.str (decF s v)) := by
  refine Fn.intro (N := 36) [0, 1, 4, 5, 6, 7, 8, 12, 22] [] Tryd.call35 Tryd.func35 rfl rfl (by kernel_rfl) (fun hpre => ?_)
  repeat' ((conv => whnf); first | (with_reducible rfl) | exact True.intro | (with_reducible exact absTF) | (with_reducible exact absFT) | intro _ | refine And.intro ?_ ?_ | refine Fin.mk ?_ | refine CallG.plain rfl ?_ ?_ | refine CallG.mk rfl ?_ ?_ | refine CallG.nwl rfl ?_ ?_ | refine CallG.nw ?_ ?_ | refine CallF.nwl rfl ?_ ?_ | refine CallF.nw ?_ ?_ | refine AppN.mk ?_ | (refine CallS.q ?_; (conv => whnf); first | refine CallG.plain rfl ?_ ?_ | refine CallG.mk rfl ?_ ?_) | (refine CallS.m ?_; (conv => whnf); refine CallM.mk rfl ?_ ?_) | (refine CallS.h ?_; (conv => whnf); refine CallM.mk rfl ?_ ?_) | (refine CallS.b ?_; (conv => whnf); refine CallM.mk rfl ?_ ?_) | (refine CallS.z ?_; (conv => whnf); refine CallM.mk rfl ?_ ?_))
  all_goals (try (conv => whnf))
  all_goals (try (exact Ob.mk (u8_bnd _)))
  all_goals (try (refine Ob.mk ?_; first | exact True.intro | assumption | omega | (try simp only [decide_eq_true_eq, decide_eq_false_iff_not, beq_iff_eq, beq_eq_false_iff_ne, bne_iff_ne, bne_eq_false_iff_eq, ne_eq, Bool.and_eq_true, Bool.or_eq_true, Bool.not_eq_true, Bool.not_eq_false, Bool.not_eq_true', Bool.not_eq_false', Int.toNat_natCast, Int.not_lt, Int.not_le, UInt8.ofNat_toNat, cast_eq] at *; omega)))
  all_goals (try ((show (_:Int) = _); omega))
  all_goals (try (show tupSV _ = _; with_unfolding_all rfl))
  all_goals (try ((show (_ : Nat) ≤ _); (simp <;> omega)))
  all_goals (try ((show (_ : Nat) ≤ _ ∧ (_ : Nat) ≤ _); (simp <;> omega)))
  all_goals (try ((show (_ : Int) ≤ _ ∧ (_ : Int) ≤ _ ∧ (_ : Int) ≤ _ ∧ (_ : Int) ≤ _); (simp <;> omega)))
  refine LoopStop.mk (α := List UInt8 × Nat) (fun a => [(5, .own 20), (6, .int .i64 (a.2 : Nat))]) (fun a => [(20, .own .byte a.1)]) 40 (fun a => a.2 ≤ s.length ∧ a.1.length ≤ 4 * a.2 ∧ a.1 ++ decF (s.drop a.2) v = decF s v) (fun a => s.length - a.2) ([], 0) ⟨by simp, by simp, by simp⟩ ?_ (fun a ha => ?_)
  · repeat' ((conv => whnf); first | (with_reducible rfl) | exact True.intro | (with_reducible exact absTF) | (with_reducible exact absFT) | intro _ | refine And.intro ?_ ?_ | refine Fin.mk ?_ | refine CallG.plain rfl ?_ ?_ | refine CallG.mk rfl ?_ ?_ | refine CallG.nwl rfl ?_ ?_ | refine CallG.nw ?_ ?_ | refine CallF.nwl rfl ?_ ?_ | refine CallF.nw ?_ ?_ | refine AppN.mk ?_ | (refine CallS.q ?_; (conv => whnf); first | refine CallG.plain rfl ?_ ?_ | refine CallG.mk rfl ?_ ?_) | (refine CallS.m ?_; (conv => whnf); refine CallM.mk rfl ?_ ?_) | (refine CallS.h ?_; (conv => whnf); refine CallM.mk rfl ?_ ?_) | (refine CallS.b ?_; (conv => whnf); refine CallM.mk rfl ?_ ?_) | (refine CallS.z ?_; (conv => whnf); refine CallM.mk rfl ?_ ?_))
    all_goals (try (conv => whnf))
    all_goals (try (exact Ob.mk (u8_bnd _)))
    all_goals (try (refine Ob.mk ?_; first | exact True.intro | assumption | omega | (try simp only [decide_eq_true_eq, decide_eq_false_iff_not, beq_iff_eq, beq_eq_false_iff_ne, bne_iff_ne, bne_eq_false_iff_eq, ne_eq, Bool.and_eq_true, Bool.or_eq_true, Bool.not_eq_true, Bool.not_eq_false, Bool.not_eq_true', Bool.not_eq_false', Int.toNat_natCast, Int.not_lt, Int.not_le, UInt8.ofNat_toNat, cast_eq] at *; omega)))
    all_goals (try ((show (_:Int) = _); omega))
    all_goals (try (show tupSV _ = _; with_unfolding_all rfl))
    all_goals (try ((show (_ : Nat) ≤ _); (simp <;> omega)))
    all_goals (try ((show (_ : Nat) ≤ _ ∧ (_ : Nat) ≤ _); (simp <;> omega)))
    all_goals (try ((show (_ : Int) ≤ _ ∧ (_ : Int) ≤ _ ∧ (_ : Int) ≤ _ ∧ (_ : Int) ≤ _); (simp <;> omega)))
    all_goals (try rfl)
  · obtain ⟨out, i⟩ := a
    obtain ⟨a1, a2, a3⟩ := ha
    dsimp only at a1 a2 a3 ⊢
    obtain ⟨b1, b2, b3⟩ := rd_bound (s.drop i) v
    have hinv := dec_inv (s := s) (out := out) (v := v) (i := i)
    repeat' ((conv => whnf); first | (with_reducible rfl) | exact True.intro | (with_reducible exact absTF) | (with_reducible exact absFT) | intro _ | refine And.intro ?_ ?_ | refine Fin.mk ?_ | refine CallG.plain rfl ?_ ?_ | refine CallG.mk rfl ?_ ?_ | refine CallG.nwl rfl ?_ ?_ | refine CallG.nw ?_ ?_ | refine CallF.nwl rfl ?_ ?_ | refine CallF.nw ?_ ?_ | refine AppN.mk ?_ | (refine CallS.q ?_; (conv => whnf); first | refine CallG.plain rfl ?_ ?_ | refine CallG.mk rfl ?_ ?_) | (refine CallS.m ?_; (conv => whnf); refine CallM.mk rfl ?_ ?_) | (refine CallS.h ?_; (conv => whnf); refine CallM.mk rfl ?_ ?_) | (refine CallS.b ?_; (conv => whnf); refine CallM.mk rfl ?_ ?_) | (refine CallS.z ?_; (conv => whnf); refine CallM.mk rfl ?_ ?_))
    all_goals (try (conv => whnf))
    all_goals (try (exact Ob.mk (u8_bnd _)))
    all_goals (try (refine Ob.mk ?_; first | exact True.intro | assumption | omega | (try simp only [decide_eq_true_eq, decide_eq_false_iff_not, beq_iff_eq, beq_eq_false_iff_ne, bne_iff_ne, bne_eq_false_iff_eq, ne_eq, Bool.and_eq_true, Bool.or_eq_true, Bool.not_eq_true, Bool.not_eq_false, Bool.not_eq_true', Bool.not_eq_false', Int.toNat_natCast, Int.not_lt, Int.not_le, UInt8.ofNat_toNat, cast_eq] at *; omega)))
    all_goals (try ((show (_:Int) = _); omega))
    all_goals (try (show tupSV _ = _; with_unfolding_all rfl))
    all_goals (try ((show (_ : Nat) ≤ _); (simp <;> omega)))
    all_goals (try ((show (_ : Nat) ≤ _ ∧ (_ : Nat) ≤ _); (simp <;> omega)))
    all_goals (try ((show (_ : Int) ≤ _ ∧ (_ : Int) ≤ _ ∧ (_ : Int) ≤ _ ∧ (_ : Int) ≤ _); (simp <;> omega)))
    all_goals (try (simp only [Int.toNat_natCast, Int.reduceToNat, Ty.dflt, cast_eq] at *))
    all_goals (try (simp only [ti1] at *))
    all_goals (try simp only [decide_eq_true_eq, decide_eq_false_iff_not, beq_iff_eq, beq_eq_false_iff_ne, bne_iff_ne, bne_eq_false_iff_eq, ne_eq, Bool.and_eq_true, Bool.or_eq_true, Bool.and_eq_false_iff, Bool.or_eq_false_iff, Bool.not_eq_true, Bool.not_eq_false, Bool.not_eq_true', Bool.not_eq_false', Int.toNat_natCast, Int.not_lt, Int.not_le, ge_iff_le, gt_iff_lt, UInt8.ofNat_toNat, cast_eq] at *)
    all_goals (try (have hlt : i < s.length := by omega))
    all_goals (try (have hstep := hinv hlt a3))
    all_goals (try (simp only [List.length_drop] at b2))
    all_goals (try (show InI64 _; constructor <;> omega))
    all_goals (try (rw [drop_take_one s i hlt]))
    · refine Rnd.mk ⟨(out ++ [s.getD i 0], i + 1), ?_, ?_, ?_⟩
      · exact ⟨hlt, by simp; omega, hstep.2 ‹_›⟩
      · simp only; omega
      · repeat' ((conv => whnf); first | (with_reducible rfl) | exact True.intro | (with_reducible exact absTF) | (with_reducible exact absFT) | intro _ | refine And.intro ?_ ?_ | refine Fin.mk ?_ | refine CallG.plain rfl ?_ ?_ | refine CallG.mk rfl ?_ ?_ | refine CallG.nwl rfl ?_ ?_ | refine CallG.nw ?_ ?_ | refine CallF.nwl rfl ?_ ?_ | refine CallF.nw ?_ ?_ | refine AppN.mk ?_ | (refine CallS.q ?_; (conv => whnf); first | refine CallG.plain rfl ?_ ?_ | refine CallG.mk rfl ?_ ?_) | (refine CallS.m ?_; (conv => whnf); refine CallM.mk rfl ?_ ?_) | (refine CallS.h ?_; (conv => whnf); refine CallM.mk rfl ?_ ?_) | (refine CallS.b ?_; (conv => whnf); refine CallM.mk rfl ?_ ?_) | (refine CallS.z ?_; (conv => whnf); refine CallM.mk rfl ?_ ?_))
        all_goals (try (conv => whnf))
        all_goals (try (exact Ob.mk (u8_bnd _)))
        all_goals (try (refine Ob.mk ?_; first | exact True.intro | assumption | omega | (try simp only [decide_eq_true_eq, decide_eq_false_iff_not, beq_iff_eq, beq_eq_false_iff_ne, bne_iff_ne, bne_eq_false_iff_eq, ne_eq, Bool.and_eq_true, Bool.or_eq_true, Bool.not_eq_true, Bool.not_eq_false, Bool.not_eq_true', Bool.not_eq_false', Int.toNat_natCast, Int.not_lt, Int.not_le, UInt8.ofNat_toNat, cast_eq] at *; omega)))
        all_goals (try ((show (_:Int) = _); omega))
        all_goals (try (show tupSV _ = _; with_unfolding_all rfl))
        all_goals (try ((show (_ : Nat) ≤ _); (simp <;> omega)))
        all_goals (try ((show (_ : Nat) ≤ _ ∧ (_ : Nat) ≤ _); (simp <;> omega)))
        all_goals (try ((show (_ : Int) ≤ _ ∧ (_ : Int) ≤ _ ∧ (_ : Int) ≤ _ ∧ (_ : Int) ≤ _); (simp <;> omega)))
        all_goals (try (rw [drop_take_one s i hlt]))
    · refine Rnd.mk ⟨(out ++ (rdP (s.drop i) v).1, i + (rdP (s.drop i) v).2.toNat), ?_, ?_, ?_⟩
      · refine ⟨by simp only; omega, ?_, hstep.1 ‹_›⟩
        rw [List.length_append]
        simp only; omega
      · simp only; omega
      · repeat' ((conv => whnf); first | (with_reducible rfl) | exact True.intro | (with_reducible exact absTF) | (with_reducible exact absFT) | intro _ | refine And.intro ?_ ?_ | refine Fin.mk ?_ | refine CallG.plain rfl ?_ ?_ | refine CallG.mk rfl ?_ ?_ | refine CallG.nwl rfl ?_ ?_ | refine CallG.nw ?_ ?_ | refine CallF.nwl rfl ?_ ?_ | refine CallF.nw ?_ ?_ | refine AppN.mk ?_ | (refine CallS.q ?_; (conv => whnf); first | refine CallG.plain rfl ?_ ?_ | refine CallG.mk rfl ?_ ?_) | (refine CallS.m ?_; (conv => whnf); refine CallM.mk rfl ?_ ?_) | (refine CallS.h ?_; (conv => whnf); refine CallM.mk rfl ?_ ?_) | (refine CallS.b ?_; (conv => whnf); refine CallM.mk rfl ?_ ?_) | (refine CallS.z ?_; (conv => whnf); refine CallM.mk rfl ?_ ?_))
        all_goals (try (conv => whnf))
        all_goals (try (exact Ob.mk (u8_bnd _)))
        all_goals (try (refine Ob.mk ?_; first | exact True.intro | assumption | omega | (try simp only [decide_eq_true_eq, decide_eq_false_iff_not, beq_iff_eq, beq_eq_false_iff_ne, bne_iff_ne, bne_eq_false_iff_eq, ne_eq, Bool.and_eq_true, Bool.or_eq_true, Bool.not_eq_true, Bool.not_eq_false, Bool.not_eq_true', Bool.not_eq_false', Int.toNat_natCast, Int.not_lt, Int.not_le, UInt8.ofNat_toNat, cast_eq] at *; omega)))
        all_goals (try ((show (_:Int) = _); omega))
        all_goals (try (show tupSV _ = _; with_unfolding_all rfl))
        all_goals (try ((show (_ : Nat) ≤ _); (simp <;> omega)))
        all_goals (try ((show (_ : Nat) ≤ _ ∧ (_ : Nat) ≤ _); (simp <;> omega)))
        all_goals (try ((show (_ : Int) ≤ _ ∧ (_ : Int) ≤ _ ∧ (_ : Int) ≤ _ ∧ (_ : Int) ≤ _); (simp <;> omega)))
        all_goals (try (show _ = (_ : Int); simp only; omega))
    · have he : s.drop i = [] := List.drop_of_length_le (by omega)
      rw [he, decF_nil, List.append_nil] at a3
      rw [a3]
end Go.Vc

namespace Go.Vc
set_option autoImplicit false
open Go.Lib
theorem occ1 (t : List UInt8) (c : UInt8) (j : Nat) : occAt t [c] j = (decide (j < t.length) && (t.getD j 0 == c)) := by
  unfold occAt
  by_cases h : j < t.length
  · rw [List.drop_eq_getElem_cons h]
    simp only [List.isPrefixOf, Bool.and_true, List.getD, List.getElem?_eq_getElem h, Option.getD_some, decide_eq_true h, Bool.true_and]
    exact BEq.comm
  · rw [List.drop_eq_nil_of_le (by omega)]
    simp [List.isPrefixOf, h]
theorem index1_first (t : List UInt8) (c : UInt8) (i : Nat) (h : i < t.length) (hc : t.getD i 0 = c) (hn : ∀ j, j < i → t.getD j 0 ≠ c) : index t [c] = i := by
  refine index_first (by omega) (by rw [occ1, decide_eq_true h, hc]; simp) (fun j hj => ?_)
  rw [occ1]
  rw [show (t.getD j 0 == c) = false from beq_eq_false_iff_ne.2 (hn j hj), Bool.and_false]
theorem index1_none (t : List UInt8) (c : UInt8) (hn : ∀ j, j < t.length → t.getD j 0 ≠ c) : index t [c] = -1 := by
  refine index_none (fun j _ => ?_)
  rw [occ1]
  by_cases h : j < t.length
  · rw [show (t.getD j 0 == c) = false from beq_eq_false_iff_ne.2 (hn j h), Bool.and_false]
  · simp [h]
theorem index1_spec (t : List UInt8) (c : UInt8) : (index t [c] = -1 ∧ ∀ j, j < t.length → t.getD j 0 ≠ c) ∨ (∃ i : Nat, index t [c] = i ∧ i < t.length ∧ t.getD i 0 = c ∧ ∀ j, j < i → t.getD j 0 ≠ c) := by
  rcases index_spec t [c] with ⟨h1, h2⟩ | ⟨i, h1, h2, h3, h4⟩
  · left
    refine ⟨h1, fun j hj hc => ?_⟩
    have := h2 j (by omega)
    rw [occ1, decide_eq_true hj, hc] at this
    simp at this
  · right
    rw [occ1] at h3
    simp only [Bool.and_eq_true, decide_eq_true_eq, beq_iff_eq] at h3
    refine ⟨i, h1, h3.1, h3.2, fun j hj hc => ?_⟩
    have := h4 j hj
    rw [occ1] at this
    have hjl : j < t.length := by omega
    rw [decide_eq_true hjl, hc, beq_self_eq_true] at this
    cases this
end Go.Vc

namespace Go.Vc
set_option autoImplicit false
open Go.Lib
theorem rdP_plain (s : List UInt8) (v : Bool) (h : s.getD 0 0 ≠ 38) : (rdP s v).2 = 0 := by
  unfold rdP; rw [if_pos (.inr h)]
theorem decF_app (v : Bool) : ∀ (s t : List UInt8), (∀ j, j < s.length → s.getD j 0 ≠ 38) → decF (s ++ t) v = s ++ decF t v
  | [], t, _ => rfl
  | c :: r, t, h => by
    have h0 : c ≠ 38 := h 0 (by simp)
    have ih := decF_app v r t (fun j hj => by have := h (j + 1) (by simp; omega); simpa using this)
    rw [List.cons_append, decF_step v (by simp), if_pos (rdP_plain (c :: (r ++ t)) v h0)]
    simp only [List.drop_succ_cons, List.drop_zero]
    rw [ih]
    rfl
/-- what is left where no & is -/
def noA (s : List UInt8) : Prop := ∀ j, j < s.length → s.getD j 0 ≠ 38
theorem rep_spec : ∀ (n : Nat) (s : List UInt8), s.length ≤ n → noA (replaceK [38] [43] (count s [38]) s) ∧ (replaceK [38] [43] (count s [38]) s).length = s.length := by
  intro n
  induction n with
  | zero =>
    intro s h
    have : s = [] := List.length_eq_zero_iff.1 (by omega)
    subst this
    exact ⟨fun j hj => by simp [count, countFrom, index, replaceK] at hj, rfl⟩
  | succ n ih =>
    intro s h
    rcases index1_spec s 38 with ⟨h1, h2⟩ | ⟨i, h1, h2, h3, h4⟩
    · rw [count_miss h1]
      exact ⟨h2, rfl⟩
    · rw [count_hit (by simp) h1, Nat.add_comm 1, replaceK_hit _ _ _ _ i h1]
      have hd : ([38] : List UInt8).length = 1 := rfl
      rw [hd]
      obtain ⟨g1, g2⟩ := ih (s.drop (i + 1)) (by rw [List.length_drop]; omega)
      rw [List.length_drop] at g2
      refine ⟨fun j hj => ?_, ?_⟩
      · have hti : (s.take i).length = i := by rw [List.length_take]; omega
        rcases Nat.lt_trichotomy j i with hji | hji | hji
        · have : (s.take i ++ [43] ++ replaceK [38] [43] (count (s.drop (i + 1)) [38]) (s.drop (i + 1))).getD j 0 = s.getD j 0 := by
            simp only [List.getD]
            rw [List.append_assoc, List.getElem?_append_left (by omega), List.getElem?_take, if_pos hji]
          rw [this]
          exact h4 j hji
        · subst hji
          have : (s.take j ++ [43] ++ replaceK [38] [43] (count (s.drop (j + 1)) [38]) (s.drop (j + 1))).getD j 0 = 43 := by
            simp only [List.getD]
            rw [List.append_assoc, List.getElem?_append_right (by omega), hti]
            simp
          rw [this]
          decide
        · have : (s.take i ++ [43] ++ replaceK [38] [43] (count (s.drop (i + 1)) [38]) (s.drop (i + 1))).getD j 0 = (replaceK [38] [43] (count (s.drop (i + 1)) [38]) (s.drop (i + 1))).getD (j - (i + 1)) 0 := by
            simp only [List.getD]
            rw [List.getElem?_append_right (by simp; omega)]
            congr 2
            simp; omega
          rw [this]
          refine g1 _ ?_
          simp only [List.length_append, hti, List.length_cons, List.length_nil] at hj
          omega
      · simp only [List.length_append, g2, List.length_take, List.length_cons, List.length_nil]
        omega
theorem repA (s : List UInt8) : noA (replaceAll s [38] [43]) ∧ (replaceAll s [38] [43]).length = s.length := by
  have e : replaceAll s [38] [43] = replaceK [38] [43] (count s [38]) s := by
    unfold replaceAll replace replaceNum
    simp
  rw [e]
  exact rep_spec s.length s (Nat.le_refl _)
end Go.Vc

namespace Go.Vc
open Go.Proofs
set_option linter.unusedVariables false
set_option maxRecDepth 100000
set_option linter.unusedSimpArgs false
set_option maxHeartbeats 4000000
instance cRep (s : List UInt8) : Fn BB 34 [.str s, .str [38], .str [43]] (s.length ≤ 100000) (.str (Lib.replaceAll s [38] [43])) := by
  refine Fn.liftB Tryd.call34 fun hp r β w vs hG m hl => ?_
  obtain ⟨v1, vs1, rfl, h1, hl⟩ := hl.uncons
  obtain ⟨v2, vs2, rfl, h2, hl⟩ := hl.uncons
  obtain ⟨v3, vs3, rfl, h3, hl⟩ := hl.uncons
  obtain rfl := hl.nil_inv
  cases h1; cases h2; cases h3
  obtain ⟨mm, e1⟩ := hG.len
  have hz : (ByteArray.mk s.toArray).size = s.length := by simp [ByteArray.size]
  have hc : Lib.count s [38] ≤ s.length + 1 := Lib.count_le s [38]
  have hc' : Lib.countB ⟨s.toArray⟩ ⟨([38] : List UInt8).toArray⟩ = Lib.count s [38] := rfl
  have hn : (ByteArray.mk ([43] : List UInt8).toArray).size = 1 := rfl
  have := (repA s).2
  refine ⟨_, Tryd.strings_ReplaceAll ⟨s.toArray⟩ ⟨([38] : List UInt8).toArray⟩ ⟨([43] : List UInt8).toArray⟩ mm w (by rw [hz]; omega) (cellR_at m.vis e1) (by decide) (by rw [hz, hc', hn]; omega), .str (by rw [this]; omega)⟩
instance fAwake4 : Fn BB 33 [] True (.bool true) := by
  refine Fn.intro (N := 44) [0, 1, 2, 4, 5, 6] [] Tryd.call33 Tryd.func33 rfl rfl (by kernel_rfl) (fun hpre => ?_)
  repeat' ((conv => whnf); first | (with_reducible rfl) | exact True.intro | (with_reducible exact absTF) | (with_reducible exact absFT) | intro _ | refine And.intro ?_ ?_ | refine Fin.mk ?_ | refine CallG.plain rfl ?_ ?_ | refine CallG.mk rfl ?_ ?_ | refine CallG.nwl rfl ?_ ?_ | refine CallG.nw ?_ ?_ | refine CallF.nwl rfl ?_ ?_ | refine CallF.nw ?_ ?_ | refine AppN.mk ?_ | (refine CallS.q ?_; (conv => whnf); first | refine CallG.plain rfl ?_ ?_ | refine CallG.mk rfl ?_ ?_) | (refine CallS.m ?_; (conv => whnf); refine CallM.mk rfl ?_ ?_) | (refine CallS.h ?_; (conv => whnf); refine CallM.mk rfl ?_ ?_) | (refine CallS.b ?_; (conv => whnf); refine CallM.mk rfl ?_ ?_) | (refine CallS.z ?_; (conv => whnf); refine CallM.mk rfl ?_ ?_))
  all_goals (try (conv => whnf))
  all_goals (try (exact Ob.mk (u8_bnd _)))
  all_goals (try (refine Ob.mk ?_; first | exact True.intro | assumption | omega | (try simp only [decide_eq_true_eq, decide_eq_false_iff_not, beq_iff_eq, beq_eq_false_iff_ne, bne_iff_ne, bne_eq_false_iff_eq, ne_eq, Bool.and_eq_true, Bool.or_eq_true, Bool.not_eq_true, Bool.not_eq_false, Bool.not_eq_true', Bool.not_eq_false', Int.toNat_natCast, Int.not_lt, Int.not_le, UInt8.ofNat_toNat, cast_eq] at *; omega)))
  all_goals (try ((show (_:Int) = _); omega))
  all_goals (try (show tupSV _ = _; with_unfolding_all rfl))
  all_goals (try ((show (_ : Nat) ≤ _); (simp <;> omega)))
  all_goals (try ((show (_ : Nat) ≤ _ ∧ (_ : Nat) ≤ _); (simp <;> omega)))
  all_goals (try ((show (_ : Int) ≤ _ ∧ (_ : Int) ≤ _ ∧ (_ : Int) ≤ _ ∧ (_ : Int) ≤ _); (simp <;> omega)))
  decide +kernel
theorem decF_len4 (s : List UInt8) (v : Bool) : ∀ n, s.length ≤ n → (decF s v).length ≤ 4 * s.length := by
  intro n
  induction n generalizing s with
  | zero =>
    intro h
    have : s = [] := List.length_eq_zero_iff.1 (by omega)
    subst this; simp [decF_nil]
  | succ n ih =>
    intro h
    by_cases he : s = []
    · subst he; simp [decF_nil]
    · have hl : 0 < s.length := List.length_pos_iff.2 he
      obtain ⟨b1, b2, b3⟩ := rd_bound s v
      rw [decF_step v he]
      split
      · have := ih (s.drop 1) (by rw [List.length_drop]; omega)
        rw [List.length_drop] at this
        simp only [List.length_cons]
        omega
      · rename_i h0
        have := ih (s.drop (rdP s v).2.toNat) (by rw [List.length_drop]; omega)
        rw [List.length_drop] at this
        rw [List.length_append]
        omega
instance cStays (s t : List UInt8) (v : Bool) : Fn BB 7 [.str s, .str t, .bool v] True (.bool true) := by
  refine Fn.intro (N := 39) [0, 1, 2, 6, 14] [] Tryd.call7 Tryd.func7 rfl rfl (by kernel_rfl) (fun hpre => ?_)
  obtain ⟨hr1, hr2⟩ := repA s
  have hd := decF_app v (Lib.replaceAll s [38] [43])
  have hd0 := hd [] hr1
  rw [List.append_nil, decF_nil, List.append_nil] at hd0
  have ht := decF_len4 t v t.length (Nat.le_refl _)
  repeat' ((conv => whnf); first | (with_reducible rfl) | exact True.intro | (with_reducible exact absTF) | (with_reducible exact absFT) | intro _ | refine And.intro ?_ ?_ | refine Fin.mk ?_ | refine CallG.plain rfl ?_ ?_ | refine CallG.mk rfl ?_ ?_ | refine CallG.nwl rfl ?_ ?_ | refine CallG.nw ?_ ?_ | refine CallF.nwl rfl ?_ ?_ | refine CallF.nw ?_ ?_ | refine AppN.mk ?_ | (refine CallS.q ?_; (conv => whnf); first | refine CallG.plain rfl ?_ ?_ | refine CallG.mk rfl ?_ ?_) | (refine CallS.m ?_; (conv => whnf); refine CallM.mk rfl ?_ ?_) | (refine CallS.h ?_; (conv => whnf); refine CallM.mk rfl ?_ ?_) | (refine CallS.b ?_; (conv => whnf); refine CallM.mk rfl ?_ ?_) | (refine CallS.z ?_; (conv => whnf); refine CallM.mk rfl ?_ ?_))
  all_goals (try (conv => whnf))
  all_goals (try (exact Ob.mk (u8_bnd _)))
  all_goals (try (refine Ob.mk ?_; first | exact True.intro | assumption | omega | (try simp only [decide_eq_true_eq, decide_eq_false_iff_not, beq_iff_eq, beq_eq_false_iff_ne, bne_iff_ne, bne_eq_false_iff_eq, ne_eq, Bool.and_eq_true, Bool.or_eq_true, Bool.not_eq_true, Bool.not_eq_false, Bool.not_eq_true', Bool.not_eq_false', Int.toNat_natCast, Int.not_lt, Int.not_le, UInt8.ofNat_toNat, cast_eq] at *; omega)))
  all_goals (try ((show (_:Int) = _); omega))
  all_goals (try (show tupSV _ = _; with_unfolding_all rfl))
  all_goals (try ((show (_ : Nat) ≤ _); (simp <;> omega)))
  all_goals (try ((show (_ : Nat) ≤ _ ∧ (_ : Nat) ≤ _); (simp <;> omega)))
  all_goals (try ((show (_ : Int) ≤ _ ∧ (_ : Int) ≤ _ ∧ (_ : Int) ≤ _ ∧ (_ : Int) ≤ _); (simp <;> omega)))
  all_goals (try (
    have h := Bool.or_eq_false_iff.1 ‹(decide ((s.length : Int) > 300) || decide ((t.length : Int) > 300)) = false›
    have h1 := of_decide_eq_false h.1
    have h2 := of_decide_eq_false h.2
    first
      | (show s.length ≤ 100000; omega)
      | (show t.length ≤ 100000; omega)
      | (show (Lib.replaceAll s [38] [43]).length ≤ 100000; omega)
      | (show (Lib.replaceAll s [38] [43]).length + t.length ≤ 9223372036854775807; omega)
      | (show (Lib.replaceAll s [38] [43]).length + (decF t v).length ≤ 9223372036854775807; omega)
      | (rw [List.length_append]; omega)))
  all_goals (rw [hd0, hd t hr1]; simp)
end Go.Vc

namespace Go.Vc
open Go.Proofs
set_option maxRecDepth 100000
abbrev laidD : List (String × DataW Unit) := [("unicode/utf8.acceptRanges", YtgggnkinalmmlaaDoor.Rows.laid_unicode_utf8_acceptRanges), ("unicode/utf8.first", YtgggnkinalmmlaaDoor.Rows.laid_unicode_utf8_first)]
theorem acc_eq : (YtgggnkinalmmlaaDoor.Rows.laid_unicode_utf8_acceptRanges : DataW Unit) = Lib.acceptData := by kernel_rfl
theorem cellR_of (W : World) (b o : Nat) (v : Value) (h : W.cell? ⟨b, o, none⟩ = some v) : cellR (fun b => W.heap[b]?) b o = some v := by
  unfold cellR
  simp only [World.cell?] at h
  cases hb : W.heap[b]? with
  | none => rw [hb] at h; cases h
  | some x =>
    rw [hb] at h
    simp only [hb]
    cases x <;> first | exact h | (cases h)
theorem base_ok (W : World) (hL : laidMetH Tryd.prog laidD W) (hsh : W.ShapedOpen Tryd.prog) : BB.G fun b => W.heap[b]? := by
  have h3 := Lib.laidMet.reads hL (.tail _ (.head _))
  have h4 := Lib.laidMet.reads hL (.head _)
  have h3' : Lib.VarReads Tryd.prog W "unicode/utf8.first" Lib.firstData := by
    have e : (YtgggnkinalmmlaaDoor.Rows.laid_unicode_utf8_first : DataW Unit) = Lib.firstData := Pinned.utf8First_eq
    rw [← e]; exact h3
  have h4' : Lib.VarReads Tryd.prog W "unicode/utf8.acceptRanges" Lib.acceptData := by rw [← acc_eq]; exact h4
  have ht : Lib.Utf8Tabs 0 1 W := utf8Tabs_of_readsT (ρ := Tryd.lays260_ren) (U8Types.of260 Tryd.lays260) ⟨by kernel_rfl, by kernel_rfl, by kernel_rfl, by kernel_rfl, by kernel_rfl, by kernel_rfl, by kernel_rfl⟩ h3' h4'
  obtain ⟨m, hm⟩ := Tryd.laysM143.s1_3 W hsh
  exact ⟨fun c hc => cellR_of W _ _ _ (ht.1 c hc), fun i hi => ⟨cellR_of W _ _ _ (ht.2 i hi).1, cellR_of W _ _ _ (ht.2 i hi).2⟩, ⟨m, cellR_of W _ _ _ hm⟩⟩
end Go.Vc
