/- A part of the proof: lemmas and walks that the last text of the claim joins; no condition. -/
import Derived.Test.YtfjggnjfifbbgaaK8
namespace Go.Vc
open Go.Proofs
set_option linter.unusedVariables false
set_option maxRecDepth 10000
set_option linter.unusedSimpArgs false
theorem ixOf_has (l : List (List UInt8)) (w : List UInt8) : decide (ixOf l w ≥ 0) = l.contains w := by
  unfold ixOf
  cases h : l.contains w <;> simp
theorem nob_step {s w : List UInt8} {i p : Nat} (h : NoB s w i) (hp : ∀ j, i ≤ j → j < i + p → Lib.occAt s w j = false) (hb : ¬ BOcc s w (i + p)) : NoB s w (i + p + 1) := by
  intro j hj
  by_cases h1 : j < i
  · exact h j h1
  · by_cases h2 : j < i + p
    · intro e; have := hp j (by omega) h2; rw [e.1] at this; cases this
    · have : j = i + p := by omega
      subst this; exact hb
theorem nob_end {s w : List UInt8} {i : Nat} (h : NoB s w i) (hp : ∀ j, i ≤ j → Lib.occAt s w j = false) (n : Nat) : NoB s w n := by
  intro j hj
  by_cases h1 : j < i
  · exact h j h1
  · intro e; have := hp j (by omega); rw [e.1] at this; cases this
instance f26 (s w : List UInt8) : Fn BB 26 [.str s, .str w] (s.length ≤ 100000 ∧ w.length ≤ 100000) (.bool ((spl s).contains w)) := by
  refine Fn.intro (N := 52) [0,1,4,5,6,7,8,10,17,45] Try.call26 Try.func26 rfl rfl (by kernel_rfl) (fun hpre => ?_)
  repeat' ((conv => whnf); first | (with_reducible rfl) | exact True.intro | (with_reducible exact absTF) | (with_reducible exact absFT) | intro _ | refine And.intro ?_ ?_ | refine Fin.mk ?_ | refine CallQ.mk rfl ?_ ?_ | refine CallG.plain rfl ?_ ?_ | refine CallG.mk rfl ?_ ?_)
  all_goals (try (conv => whnf))
  all_goals (try (refine Ob.mk ?_; first | exact True.intro | assumption | omega | (try simp only [decide_eq_true_eq, decide_eq_false_iff_not, beq_iff_eq, beq_eq_false_iff_ne, bne_iff_ne, ne_eq, Bool.and_eq_true, Bool.or_eq_true, Bool.not_eq_true, Bool.not_eq_false, Bool.not_eq_true', Bool.not_eq_false', Int.toNat_natCast, Int.not_lt, Int.not_le] at *; omega)))
  all_goals (try ((show (_:Int) = _); omega))
  all_goals (try (show tupSV _ = _; with_unfolding_all rfl))
  all_goals (try ((show (_ : Nat) ≤ _); (simp <;> omega)))
  all_goals (try ((show (_ : Nat) ≤ _ ∧ (_ : Nat) ≤ _); (simp <;> omega)))
  all_goals (try ((show (_ : Int) ≤ _ ∧ (_ : Int) ≤ _ ∧ (_ : Int) ≤ _ ∧ (_ : Int) ≤ _); (simp <;> omega)))
  · rw [spl_empty s w (by simpa using ‹(w == []) = true›)]
  · have h0 : ¬ w = [] := by simpa using ‹(w == []) = false›
    refine LoopStop.mk (α := Nat) (fun i => [(5, .int .i64 i)]) (fun i => []) 0 (fun i => i ≤ s.length ∧ NoB s w i) (fun i => s.length + 1 - i) 0 ⟨by omega, fun j hj => absurd hj (by omega)⟩ ?_ (fun i hi => ?_)
    · repeat' ((conv => whnf); first | (with_reducible rfl) | exact True.intro | (with_reducible exact absTF) | (with_reducible exact absFT) | intro _ | refine And.intro ?_ ?_ | refine Fin.mk ?_ | refine CallQ.mk rfl ?_ ?_ | refine CallG.plain rfl ?_ ?_ | refine CallG.mk rfl ?_ ?_)
      all_goals (try (conv => whnf))
      all_goals (try rfl)
    · have hx := ixs s w i hi.1 h0
      have hl0 : 0 < w.length := List.length_pos_iff.mpr h0
      repeat' ((conv => whnf); first | (with_reducible rfl) | exact True.intro | (with_reducible exact absTF) | (with_reducible exact absFT) | intro _ | refine And.intro ?_ ?_ | refine Fin.mk ?_ | refine CallQ.mk rfl ?_ ?_ | refine CallG.plain rfl ?_ ?_ | refine CallG.mk rfl ?_ ?_)
      all_goals (try (conv => whnf))
      all_goals (try simp only [decide_eq_true_eq, decide_eq_false_iff_not, beq_iff_eq, beq_eq_false_iff_ne, bne_iff_ne, ne_eq, Bool.and_eq_true, Bool.or_eq_true, Bool.not_eq_true, Bool.not_eq_false, Bool.not_eq_true', Bool.not_eq_false', Int.toNat_natCast, Int.not_lt, Int.not_le] at *)
      all_goals (rcases hx with ⟨hx, hx2⟩ | ⟨p, hx, hx1, hx2, hx3⟩)
      all_goals (try (exfalso; omega))
      all_goals (try (refine Ob.mk ?_; first | exact True.intro | assumption | omega | (try simp only [decide_eq_true_eq, decide_eq_false_iff_not, beq_iff_eq, beq_eq_false_iff_ne, bne_iff_ne, ne_eq, Bool.and_eq_true, Bool.or_eq_true, Bool.not_eq_true, Bool.not_eq_false, Bool.not_eq_true', Bool.not_eq_false', Int.toNat_natCast, Int.not_lt, Int.not_le] at *; omega)))
      all_goals (try ((show (_:Int) = _); omega))
      all_goals (try (show tupSV _ = _; with_unfolding_all rfl))
      all_goals (try ((show (_ : Nat) ≤ _); (simp <;> omega)))
      all_goals (try ((show (_ : Nat) ≤ _ ∧ (_ : Nat) ≤ _); (simp <;> omega)))
      all_goals (try ((show (_ : Int) ≤ _ ∧ (_ : Int) ≤ _ ∧ (_ : Int) ≤ _ ∧ (_ : Int) ≤ _); (simp <;> omega)))
      · rw [spl_noB s w s.length (Nat.le_refl _) h0 (nob_end hi.2 hx2 _)]
      · rw [ixOf_has]
      · have hb : ¬ BOcc s w (i + p) := by
          rintro ⟨b1, b2, b3⟩
          have e1 : ((i:Int) + (p:Int) - 1).toNat = i + p - 1 := by omega
          have e2 : ((i:Int) + (p:Int) + (w.length:Int)).toNat = i + p + w.length := by omega
          rename_i hc _ _
          rw [hx, e1, e2] at hc
          simp only [Bool.and_eq_false_iff, Bool.or_eq_false_iff, beq_eq_false_iff_ne] at hc
          rcases hc with ⟨c1, c2⟩ | ⟨c1, c2⟩
          · rcases b2 with b2 | b2
            · omega
            · rw [b2] at c2; cases c2
          · rcases b3 with b3 | b3
            · omega
            · rw [b3] at c2; cases c2
        refine Rnd.mk ⟨i + p + 1, ?_, ?_, ?_⟩
        · exact ⟨by omega, nob_step hi.2 hx3 hb⟩
        · omega
        · repeat' ((conv => whnf); first | (with_reducible rfl) | exact True.intro | (with_reducible exact absTF) | (with_reducible exact absFT) | intro _ | refine And.intro ?_ ?_ | refine Fin.mk ?_ | refine CallQ.mk rfl ?_ ?_ | refine CallG.plain rfl ?_ ?_ | refine CallG.mk rfl ?_ ?_)
          all_goals (try (conv => whnf))
          all_goals (try (refine Ob.mk ?_; first | exact True.intro | assumption | omega | (try simp only [decide_eq_true_eq, decide_eq_false_iff_not, beq_iff_eq, beq_eq_false_iff_ne, bne_iff_ne, ne_eq, Bool.and_eq_true, Bool.or_eq_true, Bool.not_eq_true, Bool.not_eq_false, Bool.not_eq_true', Bool.not_eq_false', Int.toNat_natCast, Int.not_lt, Int.not_le] at *; omega)))
          all_goals (try ((show (_:Int) = _); omega))
          all_goals (try (show tupSV _ = _; with_unfolding_all rfl))
          all_goals (try ((show (_ : Nat) ≤ _); (simp <;> omega)))
          all_goals (try ((show (_ : Nat) ≤ _ ∧ (_ : Nat) ≤ _); (simp <;> omega)))
          all_goals (try ((show (_ : Int) ≤ _ ∧ (_ : Int) ≤ _ ∧ (_ : Int) ≤ _ ∧ (_ : Int) ≤ _); (simp <;> omega)))
end Go.Vc
