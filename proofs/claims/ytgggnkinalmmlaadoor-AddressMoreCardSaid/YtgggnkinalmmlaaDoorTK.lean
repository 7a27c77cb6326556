/- A part of the proof: lemmas and walks that the last text of the claim joins; no condition. -/
import Derived.Test.YtgggnkinalmmlaaDoorTJ
import Derived.Test.YtgggnkinalmmlaaDoorTI
import Derived.Lib.IndexMore
set_option linter.unusedVariables false
set_option linter.unusedSimpArgs false
namespace Go.Vc.W
open Go.Proofs
set_option linter.unusedVariables false
set_option maxRecDepth 10000
set_option linter.unusedSimpArgs false
def BOcc (s w : List UInt8) (j : Nat) : Prop := Lib.occAt s w j = true ∧ (j = 0 ∨ isSp (s.getD (j-1) 0).toNat = true) ∧ (j + w.length = s.length ∨ isSp (s.getD (j + w.length) 0).toNat = true)
/-- no word begins ahead of it -/
def NoB (s w : List UInt8) (a : Nat) : Prop := ∀ j, j < a → ¬ BOcc s w j
theorem occ_cut (s : List UInt8) (j i : Nat) (h : j ≤ i) (h2 : i ≤ s.length) : Lib.occAt s (cut s (j, i)) j = true := by
  unfold Lib.occAt cut
  rw [List.isPrefixOf_iff_prefix]
  simp only [Int.toNat_natCast]
  rw [List.drop_take]
  exact List.take_prefix _ _
theorem cut_len (s : List UInt8) (j i : Nat) (h : j ≤ i) (h2 : i ≤ s.length) : (cut s (j, i)).length = i - j := by
  simp [cut]; omega
theorem spAt_words (s : List UInt8) (i : Nat) (h : i ≤ s.length) :
    (∀ x ∈ (spAt s i).1, ¬ x = [] ∧ ∃ j, BOcc s x j) ∧ ∃ j, j ≤ i ∧ (spAt s i).2 = cut s ((j:Nat), (i:Nat)) ∧ (j = 0 ∨ isSp (s.getD (j-1) 0).toNat = true) := by
  induction i with
  | zero => exact ⟨by simp [spAt], 0, by simp, by simp [spAt, cut], Or.inl rfl⟩
  | succ i ih =>
    obtain ⟨ih1, j, hj, e, hb⟩ := ih (by omega)
    have es := spAt_succ s i (by omega)
    cases hc : isSp (s.getD i 0).toNat with
    | false =>
      rw [spStep_no hc] at es
      rw [es]
      exact ⟨ih1, j, by omega, by rw [cut_more s j i hj (by omega), ← e], hb⟩
    | true =>
      by_cases h2 : (spAt s i).2 = []
      · rw [spStep_sp hc h2] at es
        rw [es]
        exact ⟨ih1, i + 1, by omega, by simp [cut], Or.inr (by simpa using hc)⟩
      · rw [spStep_spw hc h2] at es
        rw [es]
        refine ⟨fun x hx => ?_, i + 1, by omega, by simp [cut], Or.inr (by simpa using hc)⟩
        rcases List.mem_append.mp hx with hx | hx
        · exact ih1 x hx
        · simp only [List.mem_singleton] at hx
          subst hx
          refine ⟨h2, j, ?_⟩
          rw [e]
          refine ⟨occ_cut s j i hj (by omega), hb, Or.inr ?_⟩
          rw [cut_len s j i hj (by omega)]
          have : j + (i - j) = i := by omega
          rw [this]; exact hc
theorem spl_words (s x : List UInt8) (h : (spl s).contains x = true) : ¬ x = [] ∧ ∃ j, BOcc s x j := by
  have hx : x ∈ spl s := by simpa using h
  obtain ⟨h1, j, hj, e, hb⟩ := spAt_words s s.length (Nat.le_refl _)
  by_cases h2 : (spAt s s.length).2 = []
  · rw [spl_e (Nat.le_refl _) h2] at hx; exact h1 x hx
  · rw [spl_w (Nat.le_refl _) h2] at hx
    rcases List.mem_append.mp hx with hx | hx
    · exact h1 x hx
    · simp only [List.mem_singleton] at hx
      subst hx
      refine ⟨h2, j, ?_⟩
      rw [e]
      refine ⟨occ_cut s j _ hj (Nat.le_refl _), hb, Or.inl ?_⟩
      rw [cut_len s j _ hj (Nat.le_refl _)]; omega
theorem spl_empty (s x : List UInt8) (h : x = []) : (spl s).contains x = false := by
  cases e : (spl s).contains x with
  | false => rfl
  | true => exact absurd h (spl_words s x e).1
theorem spl_noB (s x : List UInt8) (n : Nat) (hn : s.length ≤ n) (h0 : ¬ x = []) (h : NoB s x n) : (spl s).contains x = false := by
  cases e : (spl s).contains x with
  | false => rfl
  | true =>
    obtain ⟨j, hj⟩ := (spl_words s x e).2
    rcases Lib.occAt_room hj.1 with k | k
    · have : 0 < x.length := List.length_pos_iff.mpr h0
      exact absurd hj (h j (by omega))
    · exact absurd k h0
theorem least (f : Nat → Bool) (n : Nat) (h : f n = true) : ∃ m, f m = true ∧ ∀ j, j < m → f j = false := by
  induction n using Nat.strongRecOn with
  | _ n ih =>
    by_cases hh : ∃ j, j < n ∧ f j = true
    · obtain ⟨j, h1, h2⟩ := hh
      exact ih j h1 h2
    · refine ⟨n, h, fun j hj => ?_⟩
      cases e : f j with
      | false => rfl
      | true => exact absurd ⟨j, hj, e⟩ hh
theorem ixs (s w : List UInt8) (i : Nat) (hi : i ≤ s.length) (h0 : ¬ w = []) :
    (Lib.index (s.drop i) w = -1 ∧ ∀ j, i ≤ j → Lib.occAt s w j = false) ∨
    ∃ p : Nat, Lib.index (s.drop i) w = p ∧ i + p + w.length ≤ s.length ∧ Lib.occAt s w (i + p) = true ∧ ∀ j, i ≤ j → j < i + p → Lib.occAt s w j = false := by
  have sh : ∀ q, Lib.occAt (s.drop i) w q = Lib.occAt s w (i + q) := fun q => by simp [Lib.occAt, List.drop_drop]
  by_cases hh : ∃ q, Lib.occAt (s.drop i) w q = true
  · right
    obtain ⟨q, hq⟩ := hh
    obtain ⟨p, hd, hm⟩ := least _ q hq
    refine ⟨p, ?_⟩
    have hr : i + p + w.length ≤ s.length := by
      rcases Lib.occAt_room hd with k | k
      · have : 0 < w.length := List.length_pos_iff.mpr h0
        simp at k; omega
      · exact absurd k h0
    refine ⟨Lib.index_first (by simp; omega) hd hm, hr, by rw [← sh]; exact hd, fun j h1 h2 => ?_⟩
    have := hm (j - i) (by omega)
    rw [sh] at this
    have e : i + (j - i) = j := by omega
    rwa [e] at this
  · left
    have hm : ∀ q, Lib.occAt (s.drop i) w q = false := fun q => by
      cases e : Lib.occAt (s.drop i) w q with
      | false => rfl
      | true => exact absurd ⟨q, e⟩ hh
    refine ⟨Lib.index_none fun j _ => hm j, fun j h1 => ?_⟩
    have := hm (j - i)
    rw [sh] at this
    have e : i + (j - i) = j := by omega
    rwa [e] at this
end Go.Vc.W

namespace Go.Vc.W
open Go.Proofs
set_option linter.unusedVariables false
set_option maxRecDepth 10000
set_option linter.unusedSimpArgs false
theorem ixOf_has (l : List (List UInt8)) (w : List UInt8) : decide (ixOf l w ≥ 0) = l.contains w := by
  unfold ixOf
  cases h : l.contains w <;> simp
theorem nob_step {s w : List UInt8} {i p : Nat} (h : NoB s w i) (hp : ∀ j, i ≤ j → j < i + p → Lib.occAt s w j = false) (hb : ¬ BOcc s w (i + p)) : NoB s w (i + p + 1) := by
  intro j hj
  by_cases h1 : j < i
  · exact h j h1
  · by_cases h2 : j < i + p
    · intro e; have := hp j (by omega) h2; rw [e.1] at this; cases this
    · have : j = i + p := by omega
      subst this; exact hb
theorem nob_end {s w : List UInt8} {i : Nat} (h : NoB s w i) (hp : ∀ j, i ≤ j → Lib.occAt s w j = false) (n : Nat) : NoB s w n := by
  intro j hj
  by_cases h1 : j < i
  · exact h j h1
  · intro e; have := hp j (by omega); rw [e.1] at this; cases this
instance f26 (s w : List UInt8) : Fn BB 92 [.str s, .str w] (s.length ≤ 100000 ∧ w.length ≤ 100000) (.bool ((spl s).contains w)) := by
  refine Fn.intro (N := 52) [0, 1, 4, 5, 6, 7, 8, 10, 17, 45] [] Tryd.call92 Tryd.func92 rfl rfl (by kernel_rfl) (fun hpre => ?_)
  repeat' ((conv => whnf); first | (with_reducible rfl) | exact True.intro | (with_reducible exact absTF) | (with_reducible exact absFT) | intro _ | refine And.intro ?_ ?_ | refine Fin.mk ?_ | refine CallG.plain rfl ?_ ?_ | refine CallG.mk rfl ?_ ?_ | refine CallG.nwl rfl ?_ ?_ | refine CallG.nw ?_ ?_ | refine CallF.nwl rfl ?_ ?_ | refine CallF.nw ?_ ?_ | refine AppN.mk ?_ | (refine CallS.q ?_; (conv => whnf); first | refine CallG.plain rfl ?_ ?_ | refine CallG.mk rfl ?_ ?_) | (refine CallS.m ?_; (conv => whnf); refine CallM.mk rfl ?_ ?_) | (refine CallS.h ?_; (conv => whnf); refine CallM.mk rfl ?_ ?_) | (refine CallS.b ?_; (conv => whnf); refine CallM.mk rfl ?_ ?_) | (refine CallS.z ?_; (conv => whnf); refine CallM.mk rfl ?_ ?_))
  all_goals (try (conv => whnf))
  all_goals (try (exact Ob.mk (u8_bnd _)))
  all_goals (try (refine Ob.mk ?_; first | exact True.intro | assumption | omega | (try simp only [decide_eq_true_eq, decide_eq_false_iff_not, beq_iff_eq, beq_eq_false_iff_ne, bne_iff_ne, bne_eq_false_iff_eq, ne_eq, Bool.and_eq_true, Bool.or_eq_true, Bool.not_eq_true, Bool.not_eq_false, Bool.not_eq_true', Bool.not_eq_false', Int.toNat_natCast, Int.not_lt, Int.not_le, UInt8.ofNat_toNat, cast_eq] at *; omega)))
  all_goals (try ((show (_:Int) = _); omega))
  all_goals (try (show tupSV _ = _; with_unfolding_all rfl))
  all_goals (try ((show (_ : Nat) ≤ _); (simp <;> omega)))
  all_goals (try ((show (_ : Nat) ≤ _ ∧ (_ : Nat) ≤ _); (simp <;> omega)))
  all_goals (try ((show (_ : Int) ≤ _ ∧ (_ : Int) ≤ _ ∧ (_ : Int) ≤ _ ∧ (_ : Int) ≤ _); (simp <;> omega)))
  · rw [spl_empty s w (by simpa using ‹(w == []) = true›)]
  · have h0 : ¬ w = [] := by simpa using ‹(w == []) = false›
    refine LoopStop.mk (α := Nat) (fun i => [(5, .int .i64 i)]) (fun i => []) 0 (fun i => i ≤ s.length ∧ NoB s w i) (fun i => s.length + 1 - i) 0 ⟨by omega, fun j hj => absurd hj (by omega)⟩ ?_ (fun i hi => ?_)
    · repeat' ((conv => whnf); first | (with_reducible rfl) | exact True.intro | (with_reducible exact absTF) | (with_reducible exact absFT) | intro _ | refine And.intro ?_ ?_ | refine Fin.mk ?_ | refine CallG.plain rfl ?_ ?_ | refine CallG.mk rfl ?_ ?_ | refine CallG.nwl rfl ?_ ?_ | refine CallG.nw ?_ ?_ | refine CallF.nwl rfl ?_ ?_ | refine CallF.nw ?_ ?_ | refine AppN.mk ?_ | (refine CallS.q ?_; (conv => whnf); first | refine CallG.plain rfl ?_ ?_ | refine CallG.mk rfl ?_ ?_) | (refine CallS.m ?_; (conv => whnf); refine CallM.mk rfl ?_ ?_) | (refine CallS.h ?_; (conv => whnf); refine CallM.mk rfl ?_ ?_) | (refine CallS.b ?_; (conv => whnf); refine CallM.mk rfl ?_ ?_) | (refine CallS.z ?_; (conv => whnf); refine CallM.mk rfl ?_ ?_))
      all_goals (try (conv => whnf))
      all_goals (try rfl)
    · have hx := ixs s w i hi.1 h0
      have hl0 : 0 < w.length := List.length_pos_iff.mpr h0
      repeat' ((conv => whnf); first | (with_reducible rfl) | exact True.intro | (with_reducible exact absTF) | (with_reducible exact absFT) | intro _ | refine And.intro ?_ ?_ | refine Fin.mk ?_ | refine CallG.plain rfl ?_ ?_ | refine CallG.mk rfl ?_ ?_ | refine CallG.nwl rfl ?_ ?_ | refine CallG.nw ?_ ?_ | refine CallF.nwl rfl ?_ ?_ | refine CallF.nw ?_ ?_ | refine AppN.mk ?_ | (refine CallS.q ?_; (conv => whnf); first | refine CallG.plain rfl ?_ ?_ | refine CallG.mk rfl ?_ ?_) | (refine CallS.m ?_; (conv => whnf); refine CallM.mk rfl ?_ ?_) | (refine CallS.h ?_; (conv => whnf); refine CallM.mk rfl ?_ ?_) | (refine CallS.b ?_; (conv => whnf); refine CallM.mk rfl ?_ ?_) | (refine CallS.z ?_; (conv => whnf); refine CallM.mk rfl ?_ ?_))
      all_goals (try (conv => whnf))
      all_goals (try simp only [decide_eq_true_eq, decide_eq_false_iff_not, beq_iff_eq, beq_eq_false_iff_ne, bne_iff_ne, bne_eq_false_iff_eq, ne_eq, Bool.and_eq_true, Bool.or_eq_true, Bool.not_eq_true, Bool.not_eq_false, Bool.not_eq_true', Bool.not_eq_false', Int.toNat_natCast, Int.not_lt, Int.not_le, UInt8.ofNat_toNat, cast_eq] at *)
      all_goals (rcases hx with ⟨hx, hx2⟩ | ⟨p, hx, hx1, hx2, hx3⟩)
      all_goals (try (exfalso; omega))
      all_goals (try (exact Ob.mk (u8_bnd _)))
      all_goals (try (refine Ob.mk ?_; first | exact True.intro | assumption | omega | (try simp only [decide_eq_true_eq, decide_eq_false_iff_not, beq_iff_eq, beq_eq_false_iff_ne, bne_iff_ne, bne_eq_false_iff_eq, ne_eq, Bool.and_eq_true, Bool.or_eq_true, Bool.not_eq_true, Bool.not_eq_false, Bool.not_eq_true', Bool.not_eq_false', Int.toNat_natCast, Int.not_lt, Int.not_le, UInt8.ofNat_toNat, cast_eq] at *; omega)))
      all_goals (try ((show (_:Int) = _); omega))
      all_goals (try (show tupSV _ = _; with_unfolding_all rfl))
      all_goals (try ((show (_ : Nat) ≤ _); (simp <;> omega)))
      all_goals (try ((show (_ : Nat) ≤ _ ∧ (_ : Nat) ≤ _); (simp <;> omega)))
      all_goals (try ((show (_ : Int) ≤ _ ∧ (_ : Int) ≤ _ ∧ (_ : Int) ≤ _ ∧ (_ : Int) ≤ _); (simp <;> omega)))
      · rw [spl_noB s w s.length (Nat.le_refl _) h0 (nob_end hi.2 hx2 _)]
      · rw [ixOf_has]
      · have hb : ¬ BOcc s w (i + p) := by
          rintro ⟨b1, b2, b3⟩
          have e1 : ((i:Int) + (p:Int) - 1).toNat = i + p - 1 := by omega
          have e2 : ((i:Int) + (p:Int) + (w.length:Int)).toNat = i + p + w.length := by omega
          rename_i hc _ _
          rw [hx, e1, e2] at hc
          simp only [Bool.and_eq_false_iff, Bool.or_eq_false_iff, beq_eq_false_iff_ne] at hc
          rcases hc with ⟨c1, c2⟩ | ⟨c1, c2⟩
          · rcases b2 with b2 | b2
            · omega
            · rw [b2] at c2; cases c2
          · rcases b3 with b3 | b3
            · omega
            · rw [b3] at c2; cases c2
        refine Rnd.mk ⟨i + p + 1, ?_, ?_, ?_⟩
        · exact ⟨by omega, nob_step hi.2 hx3 hb⟩
        · omega
        · repeat' ((conv => whnf); first | (with_reducible rfl) | exact True.intro | (with_reducible exact absTF) | (with_reducible exact absFT) | intro _ | refine And.intro ?_ ?_ | refine Fin.mk ?_ | refine CallG.plain rfl ?_ ?_ | refine CallG.mk rfl ?_ ?_ | refine CallG.nwl rfl ?_ ?_ | refine CallG.nw ?_ ?_ | refine CallF.nwl rfl ?_ ?_ | refine CallF.nw ?_ ?_ | refine AppN.mk ?_ | (refine CallS.q ?_; (conv => whnf); first | refine CallG.plain rfl ?_ ?_ | refine CallG.mk rfl ?_ ?_) | (refine CallS.m ?_; (conv => whnf); refine CallM.mk rfl ?_ ?_) | (refine CallS.h ?_; (conv => whnf); refine CallM.mk rfl ?_ ?_) | (refine CallS.b ?_; (conv => whnf); refine CallM.mk rfl ?_ ?_) | (refine CallS.z ?_; (conv => whnf); refine CallM.mk rfl ?_ ?_))
          all_goals (try (conv => whnf))
          all_goals (try (exact Ob.mk (u8_bnd _)))
          all_goals (try (refine Ob.mk ?_; first | exact True.intro | assumption | omega | (try simp only [decide_eq_true_eq, decide_eq_false_iff_not, beq_iff_eq, beq_eq_false_iff_ne, bne_iff_ne, bne_eq_false_iff_eq, ne_eq, Bool.and_eq_true, Bool.or_eq_true, Bool.not_eq_true, Bool.not_eq_false, Bool.not_eq_true', Bool.not_eq_false', Int.toNat_natCast, Int.not_lt, Int.not_le, UInt8.ofNat_toNat, cast_eq] at *; omega)))
          all_goals (try ((show (_:Int) = _); omega))
          all_goals (try (show tupSV _ = _; with_unfolding_all rfl))
          all_goals (try ((show (_ : Nat) ≤ _); (simp <;> omega)))
          all_goals (try ((show (_ : Nat) ≤ _ ∧ (_ : Nat) ≤ _); (simp <;> omega)))
          all_goals (try ((show (_ : Int) ≤ _ ∧ (_ : Int) ≤ _ ∧ (_ : Int) ≤ _ ∧ (_ : Int) ≤ _); (simp <;> omega)))
end Go.Vc.W

namespace Go.Vc.W
open Go.Proofs
set_option linter.unusedVariables false
set_option maxRecDepth 10000
set_option linter.unusedSimpArgs false
def wordsB (l : List (List UInt8)) (m : Int) : Bool := decide ((l.length : Int) ≤ m) && l.all fun w => decide (w.length ≤ 100)
theorem wordsB_spec {l : List (List UInt8)} {m : Int} (h : wordsB l m = true) : (l.length : Int) ≤ m ∧ ∀ w ∈ l, w.length ≤ 100 := by
  simpa [wordsB] using h
instance fWords (l : List (List UInt8)) (m : Int) : Fn BB 12 [.rd .str l, .int .i64 m] True (.bool (wordsB l m)) := by
  refine Fn.intro (N := 21) [0, 1, 4, 6, 10, 11, 12, 13, 14, 19] [] Tryd.call12 Tryd.func12 rfl rfl (by kernel_rfl) (fun hpre => ?_)
  repeat' ((conv => whnf); first | (with_reducible rfl) | exact True.intro | (with_reducible exact absTF) | (with_reducible exact absFT) | intro _ | refine And.intro ?_ ?_ | refine Fin.mk ?_ | refine CallG.plain rfl ?_ ?_ | refine CallG.mk rfl ?_ ?_ | refine CallG.nwl rfl ?_ ?_ | refine CallG.nw ?_ ?_ | refine CallF.nwl rfl ?_ ?_ | refine CallF.nw ?_ ?_ | refine AppN.mk ?_ | (refine CallS.q ?_; (conv => whnf); first | refine CallG.plain rfl ?_ ?_ | refine CallG.mk rfl ?_ ?_) | (refine CallS.m ?_; (conv => whnf); refine CallM.mk rfl ?_ ?_) | (refine CallS.h ?_; (conv => whnf); refine CallM.mk rfl ?_ ?_) | (refine CallS.b ?_; (conv => whnf); refine CallM.mk rfl ?_ ?_) | (refine CallS.z ?_; (conv => whnf); refine CallM.mk rfl ?_ ?_))
  all_goals (try (conv => whnf))
  all_goals (try (exact Ob.mk (u8_bnd _)))
  all_goals (try (refine Ob.mk ?_; first | exact True.intro | assumption | omega | (try simp only [decide_eq_true_eq, decide_eq_false_iff_not, beq_iff_eq, beq_eq_false_iff_ne, bne_iff_ne, bne_eq_false_iff_eq, ne_eq, Bool.and_eq_true, Bool.or_eq_true, Bool.not_eq_true, Bool.not_eq_false, Bool.not_eq_true', Bool.not_eq_false', Int.toNat_natCast, Int.not_lt, Int.not_le, UInt8.ofNat_toNat, cast_eq] at *; omega)))
  all_goals (try ((show (_:Int) = _); omega))
  all_goals (try (show tupSV _ = _; with_unfolding_all rfl))
  all_goals (try ((show (_ : Nat) ≤ _); (simp <;> omega)))
  all_goals (try ((show (_ : Nat) ≤ _ ∧ (_ : Nat) ≤ _); (simp <;> omega)))
  all_goals (try ((show (_ : Int) ≤ _ ∧ (_ : Int) ≤ _ ∧ (_ : Int) ≤ _ ∧ (_ : Int) ≤ _); (simp <;> omega)))
  all_goals (try simp only [decide_eq_true_eq, decide_eq_false_iff_not, beq_iff_eq, beq_eq_false_iff_ne, bne_iff_ne, bne_eq_false_iff_eq, ne_eq, Bool.and_eq_true, Bool.or_eq_true, Bool.and_eq_false_iff, Bool.or_eq_false_iff, Bool.not_eq_true, Bool.not_eq_false, Bool.not_eq_true', Bool.not_eq_false', Int.toNat_natCast, Int.not_lt, Int.not_le, ge_iff_le, gt_iff_lt, UInt8.ofNat_toNat, cast_eq] at *)
  · have : decide ((l.length : Int) ≤ m) = false := decide_eq_false (by omega)
    simp [wordsB, this]
  · refine LoopStop.mk (α := Nat) (fun i => [(13, .int .i64 i)]) (fun i => []) 60 (fun i => i ≤ l.length ∧ (l.take i).all (fun w => decide (w.length ≤ 100)) = true) (fun i => l.length - i) 0 (by simp) ?_ (fun i hi => ?_)
    · repeat' ((conv => whnf); first | (with_reducible rfl) | exact True.intro | (with_reducible exact absTF) | (with_reducible exact absFT) | intro _ | refine And.intro ?_ ?_ | refine Fin.mk ?_ | refine CallG.plain rfl ?_ ?_ | refine CallG.mk rfl ?_ ?_ | refine CallG.nwl rfl ?_ ?_ | refine CallG.nw ?_ ?_ | refine CallF.nwl rfl ?_ ?_ | refine CallF.nw ?_ ?_ | refine AppN.mk ?_ | (refine CallS.q ?_; (conv => whnf); first | refine CallG.plain rfl ?_ ?_ | refine CallG.mk rfl ?_ ?_) | (refine CallS.m ?_; (conv => whnf); refine CallM.mk rfl ?_ ?_) | (refine CallS.h ?_; (conv => whnf); refine CallM.mk rfl ?_ ?_) | (refine CallS.b ?_; (conv => whnf); refine CallM.mk rfl ?_ ?_) | (refine CallS.z ?_; (conv => whnf); refine CallM.mk rfl ?_ ?_))
      all_goals (try (conv => whnf))
      all_goals (try (exact Ob.mk (u8_bnd _)))
      all_goals (try (refine Ob.mk ?_; first | exact True.intro | assumption | omega | (try simp only [decide_eq_true_eq, decide_eq_false_iff_not, beq_iff_eq, beq_eq_false_iff_ne, bne_iff_ne, bne_eq_false_iff_eq, ne_eq, Bool.and_eq_true, Bool.or_eq_true, Bool.not_eq_true, Bool.not_eq_false, Bool.not_eq_true', Bool.not_eq_false', Int.toNat_natCast, Int.not_lt, Int.not_le, UInt8.ofNat_toNat, cast_eq] at *; omega)))
      all_goals (try ((show (_:Int) = _); omega))
      all_goals (try (show tupSV _ = _; with_unfolding_all rfl))
      all_goals (try ((show (_ : Nat) ≤ _); (simp <;> omega)))
      all_goals (try ((show (_ : Nat) ≤ _ ∧ (_ : Nat) ≤ _); (simp <;> omega)))
      all_goals (try ((show (_ : Int) ≤ _ ∧ (_ : Int) ≤ _ ∧ (_ : Int) ≤ _ ∧ (_ : Int) ≤ _); (simp <;> omega)))
      all_goals (try rfl)
    · obtain ⟨h1, h2⟩ := hi
      repeat' ((conv => whnf); first | (with_reducible rfl) | exact True.intro | (with_reducible exact absTF) | (with_reducible exact absFT) | intro _ | refine And.intro ?_ ?_ | refine Fin.mk ?_ | refine CallG.plain rfl ?_ ?_ | refine CallG.mk rfl ?_ ?_ | refine CallG.nwl rfl ?_ ?_ | refine CallG.nw ?_ ?_ | refine CallF.nwl rfl ?_ ?_ | refine CallF.nw ?_ ?_ | refine AppN.mk ?_ | (refine CallS.q ?_; (conv => whnf); first | refine CallG.plain rfl ?_ ?_ | refine CallG.mk rfl ?_ ?_) | (refine CallS.m ?_; (conv => whnf); refine CallM.mk rfl ?_ ?_) | (refine CallS.h ?_; (conv => whnf); refine CallM.mk rfl ?_ ?_) | (refine CallS.b ?_; (conv => whnf); refine CallM.mk rfl ?_ ?_) | (refine CallS.z ?_; (conv => whnf); refine CallM.mk rfl ?_ ?_))
      all_goals (try (conv => whnf))
      all_goals (try (exact Ob.mk (u8_bnd _)))
      all_goals (try (refine Ob.mk ?_; first | exact True.intro | assumption | omega | (try simp only [decide_eq_true_eq, decide_eq_false_iff_not, beq_iff_eq, beq_eq_false_iff_ne, bne_iff_ne, bne_eq_false_iff_eq, ne_eq, Bool.and_eq_true, Bool.or_eq_true, Bool.not_eq_true, Bool.not_eq_false, Bool.not_eq_true', Bool.not_eq_false', Int.toNat_natCast, Int.not_lt, Int.not_le, UInt8.ofNat_toNat, cast_eq] at *; omega)))
      all_goals (try ((show (_:Int) = _); omega))
      all_goals (try (show tupSV _ = _; with_unfolding_all rfl))
      all_goals (try ((show (_ : Nat) ≤ _); (simp <;> omega)))
      all_goals (try ((show (_ : Nat) ≤ _ ∧ (_ : Nat) ≤ _); (simp <;> omega)))
      all_goals (try ((show (_ : Int) ≤ _ ∧ (_ : Int) ≤ _ ∧ (_ : Int) ≤ _ ∧ (_ : Int) ≤ _); (simp <;> omega)))
      all_goals (try (simp only [Int.toNat_natCast, Int.reduceToNat, Ty.dflt, cast_eq] at *))
      all_goals (try simp only [decide_eq_true_eq, decide_eq_false_iff_not, beq_iff_eq, beq_eq_false_iff_ne, bne_iff_ne, bne_eq_false_iff_eq, ne_eq, Bool.and_eq_true, Bool.or_eq_true, Bool.and_eq_false_iff, Bool.or_eq_false_iff, Bool.not_eq_true, Bool.not_eq_false, Bool.not_eq_true', Bool.not_eq_false', Int.toNat_natCast, Int.not_lt, Int.not_le, ge_iff_le, gt_iff_lt, UInt8.ofNat_toNat, cast_eq] at *)
      all_goals (try omega)
      all_goals (try (have hlt : i < l.length := by omega))
      all_goals (try (have ht := take_snoc l i [] hlt))
      · have hm : l.getD i [] ∈ l := by simp [List.getD, List.getElem?_eq_getElem hlt]
        have : (l.all fun w => decide (w.length ≤ 100)) = false := by
          rw [List.all_eq_false]
          exact ⟨_, hm, by rw [decide_eq_true_eq]; omega⟩
        rw [wordsB, this, Bool.and_false]
      · refine Rnd.mk ⟨i + 1, ?_, ?_, ?_⟩
        · exact ⟨hlt, by rw [ht, List.all_append, h2, List.all_cons, List.all_nil, decide_eq_true (by omega)]; rfl⟩
        · omega
        · repeat' ((conv => whnf); first | (with_reducible rfl) | exact True.intro | (with_reducible exact absTF) | (with_reducible exact absFT) | intro _ | refine And.intro ?_ ?_ | refine Fin.mk ?_ | refine CallG.plain rfl ?_ ?_ | refine CallG.mk rfl ?_ ?_ | refine CallG.nwl rfl ?_ ?_ | refine CallG.nw ?_ ?_ | refine CallF.nwl rfl ?_ ?_ | refine CallF.nw ?_ ?_ | refine AppN.mk ?_ | (refine CallS.q ?_; (conv => whnf); first | refine CallG.plain rfl ?_ ?_ | refine CallG.mk rfl ?_ ?_) | (refine CallS.m ?_; (conv => whnf); refine CallM.mk rfl ?_ ?_) | (refine CallS.h ?_; (conv => whnf); refine CallM.mk rfl ?_ ?_) | (refine CallS.b ?_; (conv => whnf); refine CallM.mk rfl ?_ ?_) | (refine CallS.z ?_; (conv => whnf); refine CallM.mk rfl ?_ ?_))
          all_goals (try (conv => whnf))
          all_goals (try (exact Ob.mk (u8_bnd _)))
          all_goals (try (refine Ob.mk ?_; first | exact True.intro | assumption | omega | (try simp only [decide_eq_true_eq, decide_eq_false_iff_not, beq_iff_eq, beq_eq_false_iff_ne, bne_iff_ne, bne_eq_false_iff_eq, ne_eq, Bool.and_eq_true, Bool.or_eq_true, Bool.not_eq_true, Bool.not_eq_false, Bool.not_eq_true', Bool.not_eq_false', Int.toNat_natCast, Int.not_lt, Int.not_le, UInt8.ofNat_toNat, cast_eq] at *; omega)))
          all_goals (try ((show (_:Int) = _); omega))
          all_goals (try (show tupSV _ = _; with_unfolding_all rfl))
          all_goals (try ((show (_ : Nat) ≤ _); (simp <;> omega)))
          all_goals (try ((show (_ : Nat) ≤ _ ∧ (_ : Nat) ≤ _); (simp <;> omega)))
          all_goals (try ((show (_ : Int) ≤ _ ∧ (_ : Int) ≤ _ ∧ (_ : Int) ≤ _ ∧ (_ : Int) ≤ _); (simp <;> omega)))
      · have e : i = l.length := by omega
        rw [e, List.take_length] at h2
        rw [wordsB, h2, decide_eq_true (by omega)]; rfl
end Go.Vc.W

namespace Go.Vc
open Go.Proofs
set_option linter.unusedVariables false
set_option maxRecDepth 10000
set_option linter.unusedSimpArgs false
set_option maxHeartbeats 2000000
def upB (c : UInt8) : Bool := decide (65 ≤ c.toNat) && decide (c.toNat ≤ 90)
def lowB (c : UInt8) : UInt8 := if upB c then c + 32 else c
def lowL (s : List UInt8) : List UInt8 := s.map lowB
def lowAt (s : List UInt8) (i : Nat) : List UInt8 := (s.take i).map lowB ++ s.drop i
theorem lowAt_len (s : List UInt8) (i : Nat) (h : i ≤ s.length) : (lowAt s i).length = s.length := by simp [lowAt]; omega
theorem lowAt_get (s : List UInt8) (i : Nat) (h : i < s.length) : (lowAt s i).getD i 0 = s.getD i 0 := by
  unfold lowAt
  have hl : ((s.take i).map lowB).length = i := by simp; omega
  simp only [List.getD]
  rw [List.getElem?_append_right (by omega), hl]
  simp
theorem lowAt_set (s : List UInt8) (i : Nat) (h : i < s.length) : (lowAt s i).set i (lowB (s.getD i 0)) = lowAt s (i + 1) := by
  unfold lowAt
  have hl : ((s.take i).map lowB).length = i := by simp; omega
  rw [List.set_append_right _ _ (by omega), hl, Nat.sub_self, List.drop_eq_getElem_cons h, List.set_cons_zero, List.take_succ_eq_append_getElem h, List.map_append]
  simp [List.getD, List.getElem?_eq_getElem h]
theorem lowAt_same (s : List UInt8) (i : Nat) (h : i < s.length) (hu : upB (s.getD i 0) = false) : lowAt s (i + 1) = lowAt s i := by
  rw [← lowAt_set s i h]
  have : lowB (s.getD i 0) = s.getD i 0 := by unfold lowB; rw [hu]; rfl
  rw [this]
  have h2 := lowAt_get s i h
  have hl := lowAt_len s i (by omega)
  apply List.ext_getElem? 
  intro j
  rw [List.getElem?_set]
  split
  · rename_i e
    subst e
    rw [if_pos (by omega), ← h2]
    simp [List.getD, List.getElem?_eq_getElem (show i < (lowAt s i).length by omega)]
  · rfl
theorem lowAt_end (s : List UInt8) : lowAt s s.length = lowL s := by simp [lowAt, lowL]
theorem low_or (c : UInt8) (h : upB c = true) : UInt8.ofNat (bitsI .or .u8 (c.toNat : Int) 32).toNat = lowB c := by
  have key : ∀ k : _root_.Fin 256, upB (UInt8.ofNat k.val) = true → UInt8.ofNat (bitsI .or .u8 (k.val : Int) 32).toNat = lowB (UInt8.ofNat k.val) := by decide +kernel
  have := key ⟨c.toNat, c.toNat_lt⟩
  simp only [UInt8.ofNat_toNat] at this
  exact this h
theorem low_orb (c : UInt8) : 0 ≤ bitsI .or .u8 (c.toNat : Int) 32 ∧ bitsI .or .u8 (c.toNat : Int) 32 ≤ 255 := by
  have key : ∀ k : _root_.Fin 256, 0 ≤ bitsI .or .u8 (k.val : Int) 32 ∧ bitsI .or .u8 (k.val : Int) 32 ≤ 255 := by decide +kernel
  exact key ⟨c.toNat, c.toNat_lt⟩
theorem low_add (c : UInt8) (h : upB c = true) : UInt8.ofNat (IntKind.u8.wrap ((c.toNat : Int) + 32)).toNat = lowB c := by
  have key : ∀ k : _root_.Fin 256, upB (UInt8.ofNat k.val) = true → UInt8.ofNat (IntKind.u8.wrap ((k.val : Int) + 32)).toNat = lowB (UInt8.ofNat k.val) := by decide +kernel
  have := key ⟨c.toNat, c.toNat_lt⟩
  simp only [UInt8.ofNat_toNat] at this
  exact this h
theorem low_addb (c : UInt8) : 0 ≤ IntKind.u8.wrap ((c.toNat : Int) + 32) ∧ IntKind.u8.wrap ((c.toNat : Int) + 32) ≤ 255 := by
  have key : ∀ k : _root_.Fin 256, 0 ≤ IntKind.u8.wrap ((k.val : Int) + 32) ∧ IntKind.u8.wrap ((k.val : Int) + 32) ≤ 255 := by decide +kernel
  exact key ⟨c.toNat, c.toNat_lt⟩
theorem up_eq (c : UInt8) : (decide ((65 : Int) ≤ (c.toNat : Int)) && decide ((c.toNat : Int) ≤ 90)) = upB c := by
  unfold upB
  congr 1 <;> (rw [Bool.eq_iff_iff]; simp; try omega)
instance lLower (s : List UInt8) : Fn BB 56 [.str s] True (.str (lowL s)) := by
  refine Fn.intro (N := 29) [0, 2, 3, 4, 5, 8, 9, 10, 11, 20] [] Tryd.call56 Tryd.func56 rfl rfl (by kernel_rfl) (fun hpre => ?_)
  repeat' ((conv => whnf); first | (with_reducible rfl) | exact True.intro | (with_reducible exact absTF) | (with_reducible exact absFT) | intro _ | refine And.intro ?_ ?_ | refine Fin.mk ?_ | refine CallG.plain rfl ?_ ?_ | refine CallG.mk rfl ?_ ?_ | refine CallG.nwl rfl ?_ ?_ | refine CallG.nw ?_ ?_ | refine CallF.nwl rfl ?_ ?_ | refine CallF.nw ?_ ?_ | refine AppN.mk ?_ | (refine CallS.q ?_; (conv => whnf); first | refine CallG.plain rfl ?_ ?_ | refine CallG.mk rfl ?_ ?_) | (refine CallS.m ?_; (conv => whnf); refine CallM.mk rfl ?_ ?_) | (refine CallS.h ?_; (conv => whnf); refine CallM.mk rfl ?_ ?_) | (refine CallS.b ?_; (conv => whnf); refine CallM.mk rfl ?_ ?_) | (refine CallS.z ?_; (conv => whnf); refine CallM.mk rfl ?_ ?_))
  all_goals (try (conv => whnf))
  all_goals (try (exact Ob.mk (u8_bnd _)))
  all_goals (try (refine Ob.mk ?_; first | exact True.intro | assumption | omega | (try simp only [decide_eq_true_eq, decide_eq_false_iff_not, beq_iff_eq, beq_eq_false_iff_ne, bne_iff_ne, bne_eq_false_iff_eq, ne_eq, Bool.and_eq_true, Bool.or_eq_true, Bool.not_eq_true, Bool.not_eq_false, Bool.not_eq_true', Bool.not_eq_false', Int.toNat_natCast, Int.not_lt, Int.not_le, UInt8.ofNat_toNat, cast_eq] at *; omega)))
  all_goals (try ((show (_:Int) = _); omega))
  all_goals (try (show tupSV _ = _; with_unfolding_all rfl))
  all_goals (try ((show (_ : Nat) ≤ _); (simp <;> omega)))
  all_goals (try ((show (_ : Nat) ≤ _ ∧ (_ : Nat) ≤ _); (simp <;> omega)))
  all_goals (try ((show (_ : Int) ≤ _ ∧ (_ : Int) ≤ _ ∧ (_ : Int) ≤ _ ∧ (_ : Int) ≤ _); (simp <;> omega)))
  refine LoopStop.mk (α := Nat) (fun i => [(10, .int .i64 i)]) (fun i => [(0, .own .byte (lowAt s i))]) 20 (fun i => i ≤ s.length) (fun i => s.length + 1 - i) 0 (by simp) ?_ (fun i hi => ?_)
  · repeat' ((conv => whnf); first | (with_reducible rfl) | exact True.intro | (with_reducible exact absTF) | (with_reducible exact absFT) | intro _ | refine And.intro ?_ ?_ | refine Fin.mk ?_ | refine CallG.plain rfl ?_ ?_ | refine CallG.mk rfl ?_ ?_ | refine CallG.nwl rfl ?_ ?_ | refine CallG.nw ?_ ?_ | refine CallF.nwl rfl ?_ ?_ | refine CallF.nw ?_ ?_ | refine AppN.mk ?_ | (refine CallS.q ?_; (conv => whnf); first | refine CallG.plain rfl ?_ ?_ | refine CallG.mk rfl ?_ ?_) | (refine CallS.m ?_; (conv => whnf); refine CallM.mk rfl ?_ ?_) | (refine CallS.h ?_; (conv => whnf); refine CallM.mk rfl ?_ ?_) | (refine CallS.b ?_; (conv => whnf); refine CallM.mk rfl ?_ ?_) | (refine CallS.z ?_; (conv => whnf); refine CallM.mk rfl ?_ ?_))
    all_goals (try (conv => whnf))
    all_goals (try (exact Ob.mk (u8_bnd _)))
    all_goals (try (refine Ob.mk ?_; first | exact True.intro | assumption | omega | (try simp only [decide_eq_true_eq, decide_eq_false_iff_not, beq_iff_eq, beq_eq_false_iff_ne, bne_iff_ne, bne_eq_false_iff_eq, ne_eq, Bool.and_eq_true, Bool.or_eq_true, Bool.not_eq_true, Bool.not_eq_false, Bool.not_eq_true', Bool.not_eq_false', Int.toNat_natCast, Int.not_lt, Int.not_le, UInt8.ofNat_toNat, cast_eq] at *; omega)))
    all_goals (try ((show (_:Int) = _); omega))
    all_goals (try (show tupSV _ = _; with_unfolding_all rfl))
    all_goals (try ((show (_ : Nat) ≤ _); (simp <;> omega)))
    all_goals (try ((show (_ : Nat) ≤ _ ∧ (_ : Nat) ≤ _); (simp <;> omega)))
    all_goals (try ((show (_ : Int) ≤ _ ∧ (_ : Int) ≤ _ ∧ (_ : Int) ≤ _ ∧ (_ : Int) ≤ _); (simp <;> omega)))
    all_goals rfl
  · have hg := fun h => lowAt_get s i h
    have hst := fun h => lowAt_set s i h
    have hln := lowAt_len s i hi
    repeat' ((conv => whnf); first | (with_reducible rfl) | exact True.intro | (with_reducible exact absTF) | (with_reducible exact absFT) | intro _ | refine And.intro ?_ ?_ | refine Fin.mk ?_ | refine CallG.plain rfl ?_ ?_ | refine CallG.mk rfl ?_ ?_ | refine CallG.nwl rfl ?_ ?_ | refine CallG.nw ?_ ?_ | refine CallF.nwl rfl ?_ ?_ | refine CallF.nw ?_ ?_ | refine AppN.mk ?_ | (refine CallS.q ?_; (conv => whnf); first | refine CallG.plain rfl ?_ ?_ | refine CallG.mk rfl ?_ ?_) | (refine CallS.m ?_; (conv => whnf); refine CallM.mk rfl ?_ ?_) | (refine CallS.h ?_; (conv => whnf); refine CallM.mk rfl ?_ ?_) | (refine CallS.b ?_; (conv => whnf); refine CallM.mk rfl ?_ ?_) | (refine CallS.z ?_; (conv => whnf); refine CallM.mk rfl ?_ ?_))
    all_goals (try (conv => whnf))
    all_goals (try (exact Ob.mk (u8_bnd _)))
    all_goals (try (refine Ob.mk ?_; first | exact True.intro | assumption | omega | (try simp only [decide_eq_true_eq, decide_eq_false_iff_not, beq_iff_eq, beq_eq_false_iff_ne, bne_iff_ne, bne_eq_false_iff_eq, ne_eq, Bool.and_eq_true, Bool.or_eq_true, Bool.not_eq_true, Bool.not_eq_false, Bool.not_eq_true', Bool.not_eq_false', Int.toNat_natCast, Int.not_lt, Int.not_le, UInt8.ofNat_toNat, cast_eq] at *; omega)))
    all_goals (try ((show (_:Int) = _); omega))
    all_goals (try (show tupSV _ = _; with_unfolding_all rfl))
    all_goals (try ((show (_ : Nat) ≤ _); (simp <;> omega)))
    all_goals (try ((show (_ : Nat) ≤ _ ∧ (_ : Nat) ≤ _); (simp <;> omega)))
    all_goals (try ((show (_ : Int) ≤ _ ∧ (_ : Int) ≤ _ ∧ (_ : Int) ≤ _ ∧ (_ : Int) ≤ _); (simp <;> omega)))
    all_goals (try simp only [Int.toNat_natCast, Ty.dflt] at *)
    all_goals (first | exact low_orb _ | skip)
    · rename_i hl h
      have hl := of_decide_eq_true hl
      have h : upB ((lowAt s i).getD i 0) = true := (up_eq _).symm.trans h
      refine Rnd.mk ⟨i + 1, by omega, by omega, ?_⟩
      repeat' ((conv => whnf); first | (with_reducible rfl) | exact True.intro | (with_reducible exact absTF) | (with_reducible exact absFT) | intro _ | refine And.intro ?_ ?_ | refine Fin.mk ?_ | refine CallG.plain rfl ?_ ?_ | refine CallG.mk rfl ?_ ?_ | refine CallG.nwl rfl ?_ ?_ | refine CallG.nw ?_ ?_ | refine CallF.nwl rfl ?_ ?_ | refine CallF.nw ?_ ?_ | refine AppN.mk ?_ | (refine CallS.q ?_; (conv => whnf); first | refine CallG.plain rfl ?_ ?_ | refine CallG.mk rfl ?_ ?_) | (refine CallS.m ?_; (conv => whnf); refine CallM.mk rfl ?_ ?_) | (refine CallS.h ?_; (conv => whnf); refine CallM.mk rfl ?_ ?_) | (refine CallS.b ?_; (conv => whnf); refine CallM.mk rfl ?_ ?_) | (refine CallS.z ?_; (conv => whnf); refine CallM.mk rfl ?_ ?_))
      all_goals (try (conv => whnf))
      all_goals (try (exact Ob.mk (u8_bnd _)))
      all_goals (try (refine Ob.mk ?_; first | exact True.intro | assumption | omega | (try simp only [decide_eq_true_eq, decide_eq_false_iff_not, beq_iff_eq, beq_eq_false_iff_ne, bne_iff_ne, bne_eq_false_iff_eq, ne_eq, Bool.and_eq_true, Bool.or_eq_true, Bool.not_eq_true, Bool.not_eq_false, Bool.not_eq_true', Bool.not_eq_false', Int.toNat_natCast, Int.not_lt, Int.not_le, UInt8.ofNat_toNat, cast_eq] at *; omega)))
      all_goals (try ((show (_:Int) = _); omega))
      all_goals (try (show tupSV _ = _; with_unfolding_all rfl))
      all_goals (try ((show (_ : Nat) ≤ _); (simp <;> omega)))
      all_goals (try ((show (_ : Nat) ≤ _ ∧ (_ : Nat) ≤ _); (simp <;> omega)))
      all_goals (try ((show (_ : Int) ≤ _ ∧ (_ : Int) ≤ _ ∧ (_ : Int) ≤ _ ∧ (_ : Int) ≤ _); (simp <;> omega)))
      all_goals (rw [low_or _ h, hg (by omega), hst (by omega)])
    · rename_i hl h
      have hl := of_decide_eq_true hl
      have h : upB ((lowAt s i).getD i 0) = false := (up_eq _).symm.trans h
      rw [hg (by omega)] at h
      refine Rnd.mk ⟨i + 1, by omega, by omega, ?_⟩
      repeat' ((conv => whnf); first | (with_reducible rfl) | exact True.intro | (with_reducible exact absTF) | (with_reducible exact absFT) | intro _ | refine And.intro ?_ ?_ | refine Fin.mk ?_ | refine CallG.plain rfl ?_ ?_ | refine CallG.mk rfl ?_ ?_ | refine CallG.nwl rfl ?_ ?_ | refine CallG.nw ?_ ?_ | refine CallF.nwl rfl ?_ ?_ | refine CallF.nw ?_ ?_ | refine AppN.mk ?_ | (refine CallS.q ?_; (conv => whnf); first | refine CallG.plain rfl ?_ ?_ | refine CallG.mk rfl ?_ ?_) | (refine CallS.m ?_; (conv => whnf); refine CallM.mk rfl ?_ ?_) | (refine CallS.h ?_; (conv => whnf); refine CallM.mk rfl ?_ ?_) | (refine CallS.b ?_; (conv => whnf); refine CallM.mk rfl ?_ ?_) | (refine CallS.z ?_; (conv => whnf); refine CallM.mk rfl ?_ ?_))
      all_goals (try (conv => whnf))
      all_goals (try (exact Ob.mk (u8_bnd _)))
      all_goals (try (refine Ob.mk ?_; first | exact True.intro | assumption | omega | (try simp only [decide_eq_true_eq, decide_eq_false_iff_not, beq_iff_eq, beq_eq_false_iff_ne, bne_iff_ne, bne_eq_false_iff_eq, ne_eq, Bool.and_eq_true, Bool.or_eq_true, Bool.not_eq_true, Bool.not_eq_false, Bool.not_eq_true', Bool.not_eq_false', Int.toNat_natCast, Int.not_lt, Int.not_le, UInt8.ofNat_toNat, cast_eq] at *; omega)))
      all_goals (try ((show (_:Int) = _); omega))
      all_goals (try (show tupSV _ = _; with_unfolding_all rfl))
      all_goals (try ((show (_ : Nat) ≤ _); (simp <;> omega)))
      all_goals (try ((show (_ : Nat) ≤ _ ∧ (_ : Nat) ≤ _); (simp <;> omega)))
      all_goals (try ((show (_ : Int) ≤ _ ∧ (_ : Int) ≤ _ ∧ (_ : Int) ≤ _ ∧ (_ : Int) ≤ _); (simp <;> omega)))
      all_goals (rw [lowAt_same s i (by omega) h])
    · rename_i hl
      have hl := of_decide_eq_false hl
      have : i = s.length := by omega
      rw [this, lowAt_end]
instance lRLower (s : List UInt8) : Fn BB 57 [.str s] True (.str (lowL s)) := by
  refine Fn.intro (N := 33) [0, 2, 3, 4, 10, 24] [] Tryd.call57 Tryd.func57 rfl rfl (by kernel_rfl) (fun hpre => ?_)
  repeat' ((conv => whnf); first | (with_reducible rfl) | exact True.intro | (with_reducible exact absTF) | (with_reducible exact absFT) | intro _ | refine And.intro ?_ ?_ | refine Fin.mk ?_ | refine CallG.plain rfl ?_ ?_ | refine CallG.mk rfl ?_ ?_ | refine CallG.nwl rfl ?_ ?_ | refine CallG.nw ?_ ?_ | refine CallF.nwl rfl ?_ ?_ | refine CallF.nw ?_ ?_ | refine AppN.mk ?_ | (refine CallS.q ?_; (conv => whnf); first | refine CallG.plain rfl ?_ ?_ | refine CallG.mk rfl ?_ ?_) | (refine CallS.m ?_; (conv => whnf); refine CallM.mk rfl ?_ ?_) | (refine CallS.h ?_; (conv => whnf); refine CallM.mk rfl ?_ ?_) | (refine CallS.b ?_; (conv => whnf); refine CallM.mk rfl ?_ ?_) | (refine CallS.z ?_; (conv => whnf); refine CallM.mk rfl ?_ ?_))
  all_goals (try (conv => whnf))
  all_goals (try (exact Ob.mk (u8_bnd _)))
  all_goals (try (refine Ob.mk ?_; first | exact True.intro | assumption | omega | (try simp only [decide_eq_true_eq, decide_eq_false_iff_not, beq_iff_eq, beq_eq_false_iff_ne, bne_iff_ne, bne_eq_false_iff_eq, ne_eq, Bool.and_eq_true, Bool.or_eq_true, Bool.not_eq_true, Bool.not_eq_false, Bool.not_eq_true', Bool.not_eq_false', Int.toNat_natCast, Int.not_lt, Int.not_le, UInt8.ofNat_toNat, cast_eq] at *; omega)))
  all_goals (try ((show (_:Int) = _); omega))
  all_goals (try (show tupSV _ = _; with_unfolding_all rfl))
  all_goals (try ((show (_ : Nat) ≤ _); (simp <;> omega)))
  all_goals (try ((show (_ : Nat) ≤ _ ∧ (_ : Nat) ≤ _); (simp <;> omega)))
  all_goals (try ((show (_ : Int) ≤ _ ∧ (_ : Int) ≤ _ ∧ (_ : Int) ≤ _ ∧ (_ : Int) ≤ _); (simp <;> omega)))
  refine LoopStop.mk (α := Nat) (fun i => [(4, .int .i64 i)]) (fun i => [(0, .own .byte (lowAt s i))]) 20 (fun i => i ≤ s.length) (fun i => s.length + 1 - i) 0 (by simp) ?_ (fun i hi => ?_)
  · repeat' ((conv => whnf); first | (with_reducible rfl) | exact True.intro | (with_reducible exact absTF) | (with_reducible exact absFT) | intro _ | refine And.intro ?_ ?_ | refine Fin.mk ?_ | refine CallG.plain rfl ?_ ?_ | refine CallG.mk rfl ?_ ?_ | refine CallG.nwl rfl ?_ ?_ | refine CallG.nw ?_ ?_ | refine CallF.nwl rfl ?_ ?_ | refine CallF.nw ?_ ?_ | refine AppN.mk ?_ | (refine CallS.q ?_; (conv => whnf); first | refine CallG.plain rfl ?_ ?_ | refine CallG.mk rfl ?_ ?_) | (refine CallS.m ?_; (conv => whnf); refine CallM.mk rfl ?_ ?_) | (refine CallS.h ?_; (conv => whnf); refine CallM.mk rfl ?_ ?_) | (refine CallS.b ?_; (conv => whnf); refine CallM.mk rfl ?_ ?_) | (refine CallS.z ?_; (conv => whnf); refine CallM.mk rfl ?_ ?_))
    all_goals (try (conv => whnf))
    all_goals (try (exact Ob.mk (u8_bnd _)))
    all_goals (try (refine Ob.mk ?_; first | exact True.intro | assumption | omega | (try simp only [decide_eq_true_eq, decide_eq_false_iff_not, beq_iff_eq, beq_eq_false_iff_ne, bne_iff_ne, bne_eq_false_iff_eq, ne_eq, Bool.and_eq_true, Bool.or_eq_true, Bool.not_eq_true, Bool.not_eq_false, Bool.not_eq_true', Bool.not_eq_false', Int.toNat_natCast, Int.not_lt, Int.not_le, UInt8.ofNat_toNat, cast_eq] at *; omega)))
    all_goals (try ((show (_:Int) = _); omega))
    all_goals (try (show tupSV _ = _; with_unfolding_all rfl))
    all_goals (try ((show (_ : Nat) ≤ _); (simp <;> omega)))
    all_goals (try ((show (_ : Nat) ≤ _ ∧ (_ : Nat) ≤ _); (simp <;> omega)))
    all_goals (try ((show (_ : Int) ≤ _ ∧ (_ : Int) ≤ _ ∧ (_ : Int) ≤ _ ∧ (_ : Int) ≤ _); (simp <;> omega)))
    all_goals rfl
  · have hg := fun h => lowAt_get s i h
    have hst := fun h => lowAt_set s i h
    have hln := lowAt_len s i hi
    have ue : (decide ((((lowAt s i).getD i 0).toNat : Int) ≥ 65) && decide ((((lowAt s i).getD i 0).toNat : Int) ≤ 90)) = upB ((lowAt s i).getD i 0) := up_eq _
    repeat' ((conv => whnf); first | (with_reducible rfl) | exact True.intro | (with_reducible exact absTF) | (with_reducible exact absFT) | intro _ | refine And.intro ?_ ?_ | refine Fin.mk ?_ | refine CallG.plain rfl ?_ ?_ | refine CallG.mk rfl ?_ ?_ | refine CallG.nwl rfl ?_ ?_ | refine CallG.nw ?_ ?_ | refine CallF.nwl rfl ?_ ?_ | refine CallF.nw ?_ ?_ | refine AppN.mk ?_ | (refine CallS.q ?_; (conv => whnf); first | refine CallG.plain rfl ?_ ?_ | refine CallG.mk rfl ?_ ?_) | (refine CallS.m ?_; (conv => whnf); refine CallM.mk rfl ?_ ?_) | (refine CallS.h ?_; (conv => whnf); refine CallM.mk rfl ?_ ?_) | (refine CallS.b ?_; (conv => whnf); refine CallM.mk rfl ?_ ?_) | (refine CallS.z ?_; (conv => whnf); refine CallM.mk rfl ?_ ?_))
    all_goals (try (conv => whnf))
    all_goals (try (exact Ob.mk (u8_bnd _)))
    all_goals (try (refine Ob.mk ?_; first | exact True.intro | assumption | omega | (try simp only [decide_eq_true_eq, decide_eq_false_iff_not, beq_iff_eq, beq_eq_false_iff_ne, bne_iff_ne, bne_eq_false_iff_eq, ne_eq, Bool.and_eq_true, Bool.or_eq_true, Bool.not_eq_true, Bool.not_eq_false, Bool.not_eq_true', Bool.not_eq_false', Int.toNat_natCast, Int.not_lt, Int.not_le, UInt8.ofNat_toNat, cast_eq] at *; omega)))
    all_goals (try ((show (_:Int) = _); omega))
    all_goals (try (show tupSV _ = _; with_unfolding_all rfl))
    all_goals (try ((show (_ : Nat) ≤ _); (simp <;> omega)))
    all_goals (try ((show (_ : Nat) ≤ _ ∧ (_ : Nat) ≤ _); (simp <;> omega)))
    all_goals (try ((show (_ : Int) ≤ _ ∧ (_ : Int) ≤ _ ∧ (_ : Int) ≤ _ ∧ (_ : Int) ≤ _); (simp <;> omega)))
    all_goals (try simp only [Int.toNat_natCast, Ty.dflt] at *)
    all_goals (first | exact low_addb _ | skip)
    · rename_i hl h
      have hl := of_decide_eq_true hl
      have h : upB ((lowAt s i).getD i 0) = true := ue.symm.trans h
      refine Rnd.mk ⟨i + 1, by omega, by omega, ?_⟩
      repeat' ((conv => whnf); first | (with_reducible rfl) | exact True.intro | (with_reducible exact absTF) | (with_reducible exact absFT) | intro _ | refine And.intro ?_ ?_ | refine Fin.mk ?_ | refine CallG.plain rfl ?_ ?_ | refine CallG.mk rfl ?_ ?_ | refine CallG.nwl rfl ?_ ?_ | refine CallG.nw ?_ ?_ | refine CallF.nwl rfl ?_ ?_ | refine CallF.nw ?_ ?_ | refine AppN.mk ?_ | (refine CallS.q ?_; (conv => whnf); first | refine CallG.plain rfl ?_ ?_ | refine CallG.mk rfl ?_ ?_) | (refine CallS.m ?_; (conv => whnf); refine CallM.mk rfl ?_ ?_) | (refine CallS.h ?_; (conv => whnf); refine CallM.mk rfl ?_ ?_) | (refine CallS.b ?_; (conv => whnf); refine CallM.mk rfl ?_ ?_) | (refine CallS.z ?_; (conv => whnf); refine CallM.mk rfl ?_ ?_))
      all_goals (try (conv => whnf))
      all_goals (try (exact Ob.mk (u8_bnd _)))
      all_goals (try (refine Ob.mk ?_; first | exact True.intro | assumption | omega | (try simp only [decide_eq_true_eq, decide_eq_false_iff_not, beq_iff_eq, beq_eq_false_iff_ne, bne_iff_ne, bne_eq_false_iff_eq, ne_eq, Bool.and_eq_true, Bool.or_eq_true, Bool.not_eq_true, Bool.not_eq_false, Bool.not_eq_true', Bool.not_eq_false', Int.toNat_natCast, Int.not_lt, Int.not_le, UInt8.ofNat_toNat, cast_eq] at *; omega)))
      all_goals (try ((show (_:Int) = _); omega))
      all_goals (try (show tupSV _ = _; with_unfolding_all rfl))
      all_goals (try ((show (_ : Nat) ≤ _); (simp <;> omega)))
      all_goals (try ((show (_ : Nat) ≤ _ ∧ (_ : Nat) ≤ _); (simp <;> omega)))
      all_goals (try ((show (_ : Int) ≤ _ ∧ (_ : Int) ≤ _ ∧ (_ : Int) ≤ _ ∧ (_ : Int) ≤ _); (simp <;> omega)))
      all_goals (rw [low_add _ h, hg (by omega), hst (by omega)])
    · rename_i hl h
      have hl := of_decide_eq_true hl
      have h : upB ((lowAt s i).getD i 0) = false := ue.symm.trans h
      rw [hg (by omega)] at h
      refine Rnd.mk ⟨i + 1, by omega, by omega, ?_⟩
      repeat' ((conv => whnf); first | (with_reducible rfl) | exact True.intro | (with_reducible exact absTF) | (with_reducible exact absFT) | intro _ | refine And.intro ?_ ?_ | refine Fin.mk ?_ | refine CallG.plain rfl ?_ ?_ | refine CallG.mk rfl ?_ ?_ | refine CallG.nwl rfl ?_ ?_ | refine CallG.nw ?_ ?_ | refine CallF.nwl rfl ?_ ?_ | refine CallF.nw ?_ ?_ | refine AppN.mk ?_ | (refine CallS.q ?_; (conv => whnf); first | refine CallG.plain rfl ?_ ?_ | refine CallG.mk rfl ?_ ?_) | (refine CallS.m ?_; (conv => whnf); refine CallM.mk rfl ?_ ?_) | (refine CallS.h ?_; (conv => whnf); refine CallM.mk rfl ?_ ?_) | (refine CallS.b ?_; (conv => whnf); refine CallM.mk rfl ?_ ?_) | (refine CallS.z ?_; (conv => whnf); refine CallM.mk rfl ?_ ?_))
      all_goals (try (conv => whnf))
      all_goals (try (exact Ob.mk (u8_bnd _)))
      all_goals (try (refine Ob.mk ?_; first | exact True.intro | assumption | omega | (try simp only [decide_eq_true_eq, decide_eq_false_iff_not, beq_iff_eq, beq_eq_false_iff_ne, bne_iff_ne, bne_eq_false_iff_eq, ne_eq, Bool.and_eq_true, Bool.or_eq_true, Bool.not_eq_true, Bool.not_eq_false, Bool.not_eq_true', Bool.not_eq_false', Int.toNat_natCast, Int.not_lt, Int.not_le, UInt8.ofNat_toNat, cast_eq] at *; omega)))
      all_goals (try ((show (_:Int) = _); omega))
      all_goals (try (show tupSV _ = _; with_unfolding_all rfl))
      all_goals (try ((show (_ : Nat) ≤ _); (simp <;> omega)))
      all_goals (try ((show (_ : Nat) ≤ _ ∧ (_ : Nat) ≤ _); (simp <;> omega)))
      all_goals (try ((show (_ : Int) ≤ _ ∧ (_ : Int) ≤ _ ∧ (_ : Int) ≤ _ ∧ (_ : Int) ≤ _); (simp <;> omega)))
      all_goals (rw [lowAt_same s i (by omega) h])
    · rename_i hl
      have hl := of_decide_eq_false hl
      have : i = s.length := by omega
      rw [this, lowAt_end]
end Go.Vc

namespace Go.Vc
set_option autoImplicit false
open Go.Lib
theorem occ1 (t : List UInt8) (c : UInt8) (j : Nat) : occAt t [c] j = (decide (j < t.length) && (t.getD j 0 == c)) := by
  unfold occAt
  by_cases h : j < t.length
  · rw [List.drop_eq_getElem_cons h]
    simp only [List.isPrefixOf, Bool.and_true, List.getD, List.getElem?_eq_getElem h, Option.getD_some, decide_eq_true h, Bool.true_and]
    exact BEq.comm
  · rw [List.drop_eq_nil_of_le (by omega)]
    simp [List.isPrefixOf, h]
theorem index1_first (t : List UInt8) (c : UInt8) (i : Nat) (h : i < t.length) (hc : t.getD i 0 = c) (hn : ∀ j, j < i → t.getD j 0 ≠ c) : index t [c] = i := by
  refine index_first (by omega) (by rw [occ1, decide_eq_true h, hc]; simp) (fun j hj => ?_)
  rw [occ1]
  rw [show (t.getD j 0 == c) = false from beq_eq_false_iff_ne.2 (hn j hj), Bool.and_false]
theorem index1_none (t : List UInt8) (c : UInt8) (hn : ∀ j, j < t.length → t.getD j 0 ≠ c) : index t [c] = -1 := by
  refine index_none (fun j _ => ?_)
  rw [occ1]
  by_cases h : j < t.length
  · rw [show (t.getD j 0 == c) = false from beq_eq_false_iff_ne.2 (hn j h), Bool.and_false]
  · simp [h]
theorem index1_spec (t : List UInt8) (c : UInt8) : (index t [c] = -1 ∧ ∀ j, j < t.length → t.getD j 0 ≠ c) ∨ (∃ i : Nat, index t [c] = i ∧ i < t.length ∧ t.getD i 0 = c ∧ ∀ j, j < i → t.getD j 0 ≠ c) := by
  rcases index_spec t [c] with ⟨h1, h2⟩ | ⟨i, h1, h2, h3, h4⟩
  · left
    refine ⟨h1, fun j hj hc => ?_⟩
    have := h2 j (by omega)
    rw [occ1, decide_eq_true hj, hc] at this
    simp at this
  · right
    rw [occ1] at h3
    simp only [Bool.and_eq_true, decide_eq_true_eq, beq_iff_eq] at h3
    refine ⟨i, h1, h3.1, h3.2, fun j hj hc => ?_⟩
    have := h4 j hj
    rw [occ1] at this
    have hjl : j < t.length := by omega
    rw [decide_eq_true hjl, hc, beq_self_eq_true] at this
    cases this
end Go.Vc

namespace Go.Vc
open Go.Proofs
set_option linter.unusedVariables false
set_option maxRecDepth 10000
set_option linter.unusedSimpArgs false
set_option maxHeartbeats 2000000
theorem or32 (c : Int) (h : 0 ≤ c ∧ c ≤ 255) : (decide (97 ≤ bitsI .or .u8 c 32) && decide (bitsI .or .u8 c 32 ≤ 122)) = alI c := by
  have key : ∀ k : _root_.Fin 256, (decide (97 ≤ bitsI .or .u8 (k.val : Int) 32) && decide (bitsI .or .u8 (k.val : Int) 32 ≤ 122)) = alI (k.val : Int) := by decide +kernel
  have := key ⟨c.toNat, by omega⟩
  have e : ((c.toNat : Nat) : Int) = c := by omega
  simp only [e] at this
  exact this
instance fLet (c : Int) : Fn BB 54 [.int .u8 c] (0 ≤ c ∧ c ≤ 255) (.bool (alI c)) := by
  refine Fn.intro (N := 11) [0, 2] [] Tryd.call54 Tryd.func54 rfl rfl (by kernel_rfl) (fun hpre => ?_)
  repeat' ((conv => whnf); first | (with_reducible rfl) | exact True.intro | (with_reducible exact absTF) | (with_reducible exact absFT) | intro _ | refine And.intro ?_ ?_ | refine Fin.mk ?_ | refine CallG.plain rfl ?_ ?_ | refine CallG.mk rfl ?_ ?_ | refine CallG.nwl rfl ?_ ?_ | refine CallG.nw ?_ ?_ | refine CallF.nwl rfl ?_ ?_ | refine CallF.nw ?_ ?_ | refine AppN.mk ?_ | (refine CallS.q ?_; (conv => whnf); first | refine CallG.plain rfl ?_ ?_ | refine CallG.mk rfl ?_ ?_) | (refine CallS.m ?_; (conv => whnf); refine CallM.mk rfl ?_ ?_) | (refine CallS.h ?_; (conv => whnf); refine CallM.mk rfl ?_ ?_) | (refine CallS.b ?_; (conv => whnf); refine CallM.mk rfl ?_ ?_) | (refine CallS.z ?_; (conv => whnf); refine CallM.mk rfl ?_ ?_))
  all_goals (try (conv => whnf))
  rw [or32 c hpre]
instance fRLet (c : Int) : Fn BB 58 [.int .u8 c] True (.bool (alI c)) := by
  refine Fn.intro (N := 17) [0, 2] [] Tryd.call58 Tryd.func58 rfl rfl (by kernel_rfl) (fun hpre => ?_)
  repeat' ((conv => whnf); first | (with_reducible rfl) | exact True.intro | (with_reducible exact absTF) | (with_reducible exact absFT) | intro _ | refine And.intro ?_ ?_ | refine Fin.mk ?_ | refine CallG.plain rfl ?_ ?_ | refine CallG.mk rfl ?_ ?_ | refine CallG.nwl rfl ?_ ?_ | refine CallG.nw ?_ ?_ | refine CallF.nwl rfl ?_ ?_ | refine CallF.nw ?_ ?_ | refine AppN.mk ?_ | (refine CallS.q ?_; (conv => whnf); first | refine CallG.plain rfl ?_ ?_ | refine CallG.mk rfl ?_ ?_) | (refine CallS.m ?_; (conv => whnf); refine CallM.mk rfl ?_ ?_) | (refine CallS.h ?_; (conv => whnf); refine CallM.mk rfl ?_ ?_) | (refine CallS.b ?_; (conv => whnf); refine CallM.mk rfl ?_ ?_) | (refine CallS.z ?_; (conv => whnf); refine CallM.mk rfl ?_ ?_))
  all_goals (try (conv => whnf))
  rfl
instance fIB (s : List UInt8) (c : Int) : Fn BB 55 [.str s, .int .u8 c] True (.int .i64 (Lib.indexByte s c.toNat.toUInt8)) := by
  refine ⟨Tryd.call55, fun _ r β w vs hG m hl => ?_⟩
  obtain ⟨v1, vs1, rfl, h1, hl⟩ := hl.uncons
  obtain ⟨v2, vs2, rfl, h2, hl⟩ := hl.uncons
  obtain rfl := hl.nil_inv
  cases h1; cases h2
  refine (Tryd.strings_IndexByte ⟨s.toArray⟩ c w).mono fun e w' hh => ?_
  obtain ⟨rfl, rfl⟩ := hh
  exact ⟨_, _, r, β, [], rfl, ⟨rfl, rfl⟩, by simpa using (Rel.int), m, Mem.le_refl r, Hid.refl ..⟩
theorem tup3 {r : Mem} {β : Bind} {a b c : SV} {x y z : Value} (h1 : Rel r β a x) (h2 : Rel r β b y) (h3 : Rel r β c z) : Rel r β (.tup [a, b, c]) (.tuple #[x, y, z]) := by
  refine Rel.tup (cs := [x, y, z]) rfl fun i sv v q1 q2 => ?_
  match i, q1, q2 with
  | 0, q1, q2 => simp at q1 q2; subst q1; subst q2; exact h1
  | 1, q1, q2 => simp at q1 q2; subst q1; subst q2; exact h2
  | 2, q1, q2 => simp at q1 q2; subst q1; subst q2; exact h3
theorem cut_len (s t : List UInt8) : (Lib.cut s t).1.length ≤ s.length ∧ (Lib.cut s t).2.1.length ≤ s.length := by
  unfold Lib.cut
  split
  · simp; omega
  · simp
instance lCut (s t : List UInt8) : Fn BB 53 [.str s, .str t] (s.length ≤ 100000) (.tup [.str (Lib.cut s t).1, .str (Lib.cut s t).2.1, .bool (Lib.cut s t).2.2]) := by
  refine Fn.liftB Tryd.call53 fun hp r β w vs hG m hl => ?_
  obtain ⟨rfl, h1, h2⟩ := hl.str2
  obtain ⟨mm, e1⟩ := hG.len
  have hc := cut_len s t
  refine ⟨_, (Tryd.strings_Cut ⟨s.toArray⟩ ⟨t.toArray⟩ mm w (by show s.toArray.size < _; simp; omega) (cellR_at m.vis e1)).mono fun e w' hh => ?_, tup3 (.str (by omega)) (.str (by omega)) .bool⟩
  obtain ⟨rfl, k, rfl⟩ := hh
  exact ⟨rfl, rfl, rfl, rfl, Nat.le_refl _, fun _ _ => rfl⟩
def extB (c : Int) : Bool := c == 43 || (c == 45 || (c == 46 || (decide (48 ≤ c) && decide (c ≤ 57))))
theorem ext_ix (c : UInt8) : decide (Lib.indexByte [48, 49, 50, 51, 52, 53, 54, 55, 56, 57, 43, 45, 46] (c.toNat : Int).toNat.toUInt8 < 0) = !extB (c.toNat : Int) := by
  have key : ∀ k : _root_.Fin 256, decide (Lib.indexByte [48, 49, 50, 51, 52, 53, 54, 55, 56, 57, 43, 45, 46] ((k.val : Int).toNat.toUInt8) < 0) = !extB (k.val : Int) := by decide +kernel
  exact key ⟨c.toNat, c.toNat_lt⟩
/-- may this byte stand there in a scheme? -/
def okA (c : UInt8) (i : Nat) : Bool := alI (c.toNat : Int) || (!(i == 0) && extB (c.toNat : Int))
def okH (h : List UInt8) : Bool := (List.range h.length).all fun i => okA (h.getD i 0) i
theorem okH_iff {h : List UInt8} : okH h = true ↔ ∀ i, i < h.length → okA (h.getD i 0) i = true := by
  unfold okH; rw [List.all_eq_true]; simp
def schL (t : List UInt8) : List UInt8 × Bool :=
  if 0 < Lib.index t [58] ∧ okH (t.take (Lib.index t [58]).toNat) = true then (lowL (t.take (Lib.index t [58]).toNat), true) else ([], false)
theorem getD_take' (t : List UInt8) (k i : Nat) (h : i < k) : (t.take k).getD i 0 = t.getD i 0 := by
  simp [List.getD, List.getElem?_take, h]
theorem lowL_len (s : List UInt8) : (lowL s).length = s.length := by simp [lowL]
theorem bareL_len (s : List UInt8) : (bareL s).length ≤ s.length := by
  unfold bareL
  have hl1 : (trL s).length ≤ s.length := (List.dropWhile_suffix leB).length_le
  have hl2 : (trR (trL s)).length ≤ (trL s).length := by obtain ⟨u, hu, _⟩ := trR_split (trL s); have := congrArg List.length hu; rw [List.length_append] at this; omega
  have := List.length_filter_le okC (trR (trL s))
  omega
theorem schL_zero (t : List UInt8) (h : Lib.index t [58] = 0) : schL t = ([], false) := by unfold schL; rw [if_neg (by rw [h]; simp)]
theorem schL_none (t : List UInt8) (h : Lib.index t [58] = -1) : schL t = ([], false) := by unfold schL; rw [if_neg (by rw [h]; simp)]
theorem schL_bad (t : List UInt8) (k i : Nat) (h : Lib.index t [58] = k) (hk : k ≤ t.length) (hi : i < k) (hb : okA (t.getD i 0) i = false) : schL t = ([], false) := by
  unfold schL
  rw [if_neg]
  rintro ⟨_, h2⟩
  rw [h, Int.toNat_natCast, okH_iff] at h2
  have := h2 i (by rw [List.length_take]; omega)
  rw [getD_take' t k i hi, hb] at this
  cases this
theorem schL_good (t : List UInt8) (k : Nat) (h : Lib.index t [58] = k) (hk : k ≤ t.length) (h0 : 0 < k) (hb : ∀ i, i < k → okA (t.getD i 0) i = true) : schL t = (lowL (t.take k), true) := by
  unfold schL
  rw [if_pos, h, Int.toNat_natCast]
  rw [h, Int.toNat_natCast]
  refine ⟨by omega, okH_iff.2 fun i hi => ?_⟩
  rw [List.length_take] at hi
  rw [getD_take' t k i (by omega)]
  exact hb i (by omega)
theorem okA_n (c : UInt8) (i : Nat) : (!alI (c.toNat : Int) && ((i : Int) == 0 || decide (Lib.indexByte [48, 49, 50, 51, 52, 53, 54, 55, 56, 57, 43, 45, 46] (c.toNat).toUInt8 < 0))) = !okA c i := by
  have e := ext_ix c
  rw [Int.toNat_natCast] at e
  rw [e]
  unfold okA
  have : ((i : Int) == 0) = (i == 0) := by rw [Bool.eq_iff_iff]; simp
  rw [this]
  cases alI (c.toNat : Int) <;> cases (i == 0) <;> cases extB (c.toNat : Int) <;> rfl
instance lScheme (s : List UInt8) : Fn BB 14 [.str s] (s.length ≤ 100000) (.tup [.str (schL (bareL s)).1, .bool (schL (bareL s)).2]) := by
  refine Fn.intro (N := 45) [0, 2, 3, 4, 6, 7, 8, 21, 23, 24, 25, 26, 41] [] Tryd.call14 Tryd.func14 rfl rfl (by kernel_rfl) (fun hpre => ?_)
  have hb := bareL_len s
  obtain ⟨t, ht⟩ : ∃ t, t = bareL s := ⟨_, rfl⟩
  rw [← ht] at hb
  rcases index1_spec t 58 with ⟨h1, h2⟩ | ⟨k, h1, h2, h3, h4⟩
  · have ec : Lib.cut t [58] = (t, [], false) := by unfold Lib.cut; rw [h1]; rfl
    rw [schL_none _ (by rw [← ht]; exact h1)]
    repeat' ((conv => whnf); first | (with_reducible rfl) | exact True.intro | (with_reducible exact absTF) | (with_reducible exact absFT) | intro _ | refine And.intro ?_ ?_ | refine Fin.mk ?_ | refine CallG.plain rfl ?_ ?_ | refine CallG.mk rfl ?_ ?_ | refine CallG.nwl rfl ?_ ?_ | refine CallG.nw ?_ ?_ | refine CallF.nwl rfl ?_ ?_ | refine CallF.nw ?_ ?_ | refine AppN.mk ?_ | (refine CallS.q ?_; (conv => whnf); first | refine CallG.plain rfl ?_ ?_ | refine CallG.mk rfl ?_ ?_) | (refine CallS.m ?_; (conv => whnf); refine CallM.mk rfl ?_ ?_) | (refine CallS.h ?_; (conv => whnf); refine CallM.mk rfl ?_ ?_) | (refine CallS.b ?_; (conv => whnf); refine CallM.mk rfl ?_ ?_) | (refine CallS.z ?_; (conv => whnf); refine CallM.mk rfl ?_ ?_))
    all_goals (try (conv => whnf))
    all_goals (try (exact Ob.mk (u8_bnd _)))
    all_goals (try (refine Ob.mk ?_; first | exact True.intro | assumption | omega | (try simp only [decide_eq_true_eq, decide_eq_false_iff_not, beq_iff_eq, beq_eq_false_iff_ne, bne_iff_ne, bne_eq_false_iff_eq, ne_eq, Bool.and_eq_true, Bool.or_eq_true, Bool.not_eq_true, Bool.not_eq_false, Bool.not_eq_true', Bool.not_eq_false', Int.toNat_natCast, Int.not_lt, Int.not_le, UInt8.ofNat_toNat, cast_eq] at *; omega)))
    all_goals (try ((show (_:Int) = _); omega))
    all_goals (try (show tupSV _ = _; with_unfolding_all rfl))
    all_goals (try ((show (_ : Nat) ≤ _); (simp <;> omega)))
    all_goals (try ((show (_ : Nat) ≤ _ ∧ (_ : Nat) ≤ _); (simp <;> omega)))
    all_goals (try ((show (_ : Int) ≤ _ ∧ (_ : Int) ≤ _ ∧ (_ : Int) ≤ _ ∧ (_ : Int) ≤ _); (simp <;> omega)))
    · rw [← ht]; omega
    · exfalso
      have h := ‹(!(Lib.cut (bareL s) [58]).snd.snd || (Lib.cut (bareL s) [58]).fst == []) = false›
      rw [← ht, ec] at h
      cases h
  · have ec : Lib.cut t [58] = (t.take k, t.drop (k + 1), true) := by unfold Lib.cut; rw [h1]; simp
    have ec1 : (Lib.cut (bareL s) [58]).1 = t.take k := by rw [← ht, ec]
    repeat' ((conv => whnf); first | (with_reducible rfl) | exact True.intro | (with_reducible exact absTF) | (with_reducible exact absFT) | intro _ | refine And.intro ?_ ?_ | refine Fin.mk ?_ | refine CallG.plain rfl ?_ ?_ | refine CallG.mk rfl ?_ ?_ | refine CallG.nwl rfl ?_ ?_ | refine CallG.nw ?_ ?_ | refine CallF.nwl rfl ?_ ?_ | refine CallF.nw ?_ ?_ | refine AppN.mk ?_ | (refine CallS.q ?_; (conv => whnf); first | refine CallG.plain rfl ?_ ?_ | refine CallG.mk rfl ?_ ?_) | (refine CallS.m ?_; (conv => whnf); refine CallM.mk rfl ?_ ?_) | (refine CallS.h ?_; (conv => whnf); refine CallM.mk rfl ?_ ?_) | (refine CallS.b ?_; (conv => whnf); refine CallM.mk rfl ?_ ?_) | (refine CallS.z ?_; (conv => whnf); refine CallM.mk rfl ?_ ?_))
    all_goals (try (conv => whnf))
    all_goals (try (exact Ob.mk (u8_bnd _)))
    all_goals (try (refine Ob.mk ?_; first | exact True.intro | assumption | omega | (try simp only [decide_eq_true_eq, decide_eq_false_iff_not, beq_iff_eq, beq_eq_false_iff_ne, bne_iff_ne, bne_eq_false_iff_eq, ne_eq, Bool.and_eq_true, Bool.or_eq_true, Bool.not_eq_true, Bool.not_eq_false, Bool.not_eq_true', Bool.not_eq_false', Int.toNat_natCast, Int.not_lt, Int.not_le, UInt8.ofNat_toNat, cast_eq] at *; omega)))
    all_goals (try ((show (_:Int) = _); omega))
    all_goals (try (show tupSV _ = _; with_unfolding_all rfl))
    all_goals (try ((show (_ : Nat) ≤ _); (simp <;> omega)))
    all_goals (try ((show (_ : Nat) ≤ _ ∧ (_ : Nat) ≤ _); (simp <;> omega)))
    all_goals (try ((show (_ : Int) ≤ _ ∧ (_ : Int) ≤ _ ∧ (_ : Int) ≤ _ ∧ (_ : Int) ≤ _); (simp <;> omega)))
    all_goals (try (rw [← ht]; omega))
    all_goals (try (
      have h := ‹(!(Lib.cut (bareL s) [58]).snd.snd || (Lib.cut (bareL s) [58]).fst == []) = true›
      rw [← ht, ec] at h
      have h0 : t.take k = [] := by simpa using h
      have : k = 0 := by have := congrArg List.length h0; rw [List.length_take] at this; simp only [List.length_nil] at this; omega
      subst this
      rw [← ht, schL_zero t h1]
      done))
    · have h := ‹(!(Lib.cut (bareL s) [58]).snd.snd || (Lib.cut (bareL s) [58]).fst == []) = false›
      rw [← ht, ec] at h
      have hk0 : 0 < k := by
        rcases Nat.eq_zero_or_pos k with h0 | h0
        · subst h0; simp at h
        · exact h0
      clear h
      have hkl : (t.take k).length = k := by rw [List.length_take]; omega
      rw [ec1]
      refine LoopStop.mk (α := Nat) (fun i => [(25, .int .i64 i)]) (fun i => []) 20 (fun i => i ≤ k ∧ ∀ j, j < i → okA (t.getD j 0) j = true) (fun i => k + 1 - i) 0 ⟨by omega, fun j hj => absurd hj (by omega)⟩ ?_ (fun i hi => ?_)
      · repeat' ((conv => whnf); first | (with_reducible rfl) | exact True.intro | (with_reducible exact absTF) | (with_reducible exact absFT) | intro _ | refine And.intro ?_ ?_ | refine Fin.mk ?_ | refine CallG.plain rfl ?_ ?_ | refine CallG.mk rfl ?_ ?_ | refine CallG.nwl rfl ?_ ?_ | refine CallG.nw ?_ ?_ | refine CallF.nwl rfl ?_ ?_ | refine CallF.nw ?_ ?_ | refine AppN.mk ?_ | (refine CallS.q ?_; (conv => whnf); first | refine CallG.plain rfl ?_ ?_ | refine CallG.mk rfl ?_ ?_) | (refine CallS.m ?_; (conv => whnf); refine CallM.mk rfl ?_ ?_) | (refine CallS.h ?_; (conv => whnf); refine CallM.mk rfl ?_ ?_) | (refine CallS.b ?_; (conv => whnf); refine CallM.mk rfl ?_ ?_) | (refine CallS.z ?_; (conv => whnf); refine CallM.mk rfl ?_ ?_))
        all_goals (try (conv => whnf))
        all_goals (try (exact Ob.mk (u8_bnd _)))
        all_goals (try (refine Ob.mk ?_; first | exact True.intro | assumption | omega | (try simp only [decide_eq_true_eq, decide_eq_false_iff_not, beq_iff_eq, beq_eq_false_iff_ne, bne_iff_ne, bne_eq_false_iff_eq, ne_eq, Bool.and_eq_true, Bool.or_eq_true, Bool.not_eq_true, Bool.not_eq_false, Bool.not_eq_true', Bool.not_eq_false', Int.toNat_natCast, Int.not_lt, Int.not_le, UInt8.ofNat_toNat, cast_eq] at *; omega)))
        all_goals (try ((show (_:Int) = _); omega))
        all_goals (try (show tupSV _ = _; with_unfolding_all rfl))
        all_goals (try ((show (_ : Nat) ≤ _); (simp <;> omega)))
        all_goals (try ((show (_ : Nat) ≤ _ ∧ (_ : Nat) ≤ _); (simp <;> omega)))
        all_goals (try ((show (_ : Int) ≤ _ ∧ (_ : Int) ≤ _ ∧ (_ : Int) ≤ _ ∧ (_ : Int) ≤ _); (simp <;> omega)))
        all_goals trace_state
      · obtain ⟨hi1, hi2⟩ := hi
        repeat' ((conv => whnf); first | (with_reducible rfl) | exact True.intro | (with_reducible exact absTF) | (with_reducible exact absFT) | intro _ | refine And.intro ?_ ?_ | refine Fin.mk ?_ | refine CallG.plain rfl ?_ ?_ | refine CallG.mk rfl ?_ ?_ | refine CallG.nwl rfl ?_ ?_ | refine CallG.nw ?_ ?_ | refine CallF.nwl rfl ?_ ?_ | refine CallF.nw ?_ ?_ | refine AppN.mk ?_ | (refine CallS.q ?_; (conv => whnf); first | refine CallG.plain rfl ?_ ?_ | refine CallG.mk rfl ?_ ?_) | (refine CallS.m ?_; (conv => whnf); refine CallM.mk rfl ?_ ?_) | (refine CallS.h ?_; (conv => whnf); refine CallM.mk rfl ?_ ?_) | (refine CallS.b ?_; (conv => whnf); refine CallM.mk rfl ?_ ?_) | (refine CallS.z ?_; (conv => whnf); refine CallM.mk rfl ?_ ?_))
        all_goals (try (conv => whnf))
        all_goals (try (exact Ob.mk (u8_bnd _)))
        all_goals (try (refine Ob.mk ?_; first | exact True.intro | assumption | omega | (try simp only [decide_eq_true_eq, decide_eq_false_iff_not, beq_iff_eq, beq_eq_false_iff_ne, bne_iff_ne, bne_eq_false_iff_eq, ne_eq, Bool.and_eq_true, Bool.or_eq_true, Bool.not_eq_true, Bool.not_eq_false, Bool.not_eq_true', Bool.not_eq_false', Int.toNat_natCast, Int.not_lt, Int.not_le, UInt8.ofNat_toNat, cast_eq] at *; omega)))
        all_goals (try ((show (_:Int) = _); omega))
        all_goals (try (show tupSV _ = _; with_unfolding_all rfl))
        all_goals (try ((show (_ : Nat) ≤ _); (simp <;> omega)))
        all_goals (try ((show (_ : Nat) ≤ _ ∧ (_ : Nat) ≤ _); (simp <;> omega)))
        all_goals (try ((show (_ : Int) ≤ _ ∧ (_ : Int) ≤ _ ∧ (_ : Int) ≤ _ ∧ (_ : Int) ≤ _); (simp <;> omega)))
        all_goals (try simp only [Int.toNat_natCast, Ty.dflt, hkl] at *)
        all_goals (rw [← ht])
        all_goals (first
          | (have h := (okA_n ((t.take k).getD i 0) i).symm.trans ‹_ = true›
             have hl := of_decide_eq_true ‹decide ((i : Int) < (k : Int)) = true›
             rw [getD_take' t k i (by omega)] at h
             rw [schL_bad t k i h1 (by omega) (by omega) (by simpa using h)]
             done)
          | (have hl := of_decide_eq_false ‹decide ((i : Int) < (k : Int)) = false›
             have : i = k := by omega
             subst this
             rw [schL_good t i h1 (by omega) hk0 hi2]
             done)
          | skip)
        · have h := (okA_n ((t.take k).getD i 0) i).symm.trans ‹_ = false›
          have hl := of_decide_eq_true ‹decide ((i : Int) < (k : Int)) = true›
          rw [getD_take' t k i (by omega)] at h
          refine Rnd.mk ⟨i + 1, ⟨by omega, fun j hj => ?_⟩, by omega, ?_⟩
          · by_cases h5 : j < i
            · exact hi2 j h5
            · have : j = i := by omega
              subst this; simpa using h
          · repeat' ((conv => whnf); first | (with_reducible rfl) | exact True.intro | (with_reducible exact absTF) | (with_reducible exact absFT) | intro _ | refine And.intro ?_ ?_ | refine Fin.mk ?_ | refine CallG.plain rfl ?_ ?_ | refine CallG.mk rfl ?_ ?_ | refine CallG.nwl rfl ?_ ?_ | refine CallG.nw ?_ ?_ | refine CallF.nwl rfl ?_ ?_ | refine CallF.nw ?_ ?_ | refine AppN.mk ?_ | (refine CallS.q ?_; (conv => whnf); first | refine CallG.plain rfl ?_ ?_ | refine CallG.mk rfl ?_ ?_) | (refine CallS.m ?_; (conv => whnf); refine CallM.mk rfl ?_ ?_) | (refine CallS.h ?_; (conv => whnf); refine CallM.mk rfl ?_ ?_) | (refine CallS.b ?_; (conv => whnf); refine CallM.mk rfl ?_ ?_) | (refine CallS.z ?_; (conv => whnf); refine CallM.mk rfl ?_ ?_))
            all_goals (try (conv => whnf))
            all_goals (try (exact Ob.mk (u8_bnd _)))
            all_goals (try (refine Ob.mk ?_; first | exact True.intro | assumption | omega | (try simp only [decide_eq_true_eq, decide_eq_false_iff_not, beq_iff_eq, beq_eq_false_iff_ne, bne_iff_ne, bne_eq_false_iff_eq, ne_eq, Bool.and_eq_true, Bool.or_eq_true, Bool.not_eq_true, Bool.not_eq_false, Bool.not_eq_true', Bool.not_eq_false', Int.toNat_natCast, Int.not_lt, Int.not_le, UInt8.ofNat_toNat, cast_eq] at *; omega)))
            all_goals (try ((show (_:Int) = _); omega))
            all_goals (try (show tupSV _ = _; with_unfolding_all rfl))
            all_goals (try ((show (_ : Nat) ≤ _); (simp <;> omega)))
            all_goals (try ((show (_ : Nat) ≤ _ ∧ (_ : Nat) ≤ _); (simp <;> omega)))
            all_goals (try ((show (_ : Int) ≤ _ ∧ (_ : Int) ≤ _ ∧ (_ : Int) ≤ _ ∧ (_ : Int) ≤ _); (simp <;> omega)))
end Go.Vc

namespace Go.Vc
open Go.Proofs
set_option linter.unusedVariables false
set_option maxRecDepth 10000
set_option linter.unusedSimpArgs false
set_option maxHeartbeats 2000000
theorem le_u8 (c : UInt8) : decide ((c.toNat : Int) ≤ 32) = leB c := by unfold leB; rw [Bool.eq_iff_iff]; simp; omega
theorem trL_cons (c : UInt8) (r : List UInt8) : trL (c :: r) = bif leB c then trL r else c :: r := by
  unfold trL; rw [List.dropWhile_cons]; cases leB c <;> rfl
theorem trL_head (s : List UInt8) (h : s ≠ []) : trL s = bif leB (s.getD 0 0) then trL (s.drop 1) else s := by
  cases s with
  | nil => exact absurd rfl h
  | cons c r => rw [trL_cons]; rfl
theorem trR_last (s : List UInt8) (h : s ≠ []) : trR s = bif leB (s.getD (s.length - 1) 0) then trR (s.take (s.length - 1)) else s := by
  have hl : 0 < s.length := List.length_pos_iff.2 h
  have := trR_take s (s.length - 1) (by omega)
  rw [show s.length - 1 + 1 = s.length by omega, List.take_length] at this
  exact this
theorem filt1 (s : List UInt8) (i : Nat) (h : i < s.length) : (s.take (i + 1)).drop i = [s.getD i 0] := by
  rw [List.drop_take, List.drop_eq_getElem_cons h, show i + 1 - i = 1 by omega, List.take_succ_cons, List.take_zero]
  simp [List.getD, List.getElem?_eq_getElem h]
instance lRBare (s : List UInt8) : Fn BB 19 [.str s] (s.length ≤ 100000) (.str (bareL s)) := by
  refine Fn.intro (N := 61) [0, 2, 3, 4, 12, 25, 34, 52] [] Tryd.call19 Tryd.func19 rfl rfl (by kernel_rfl) (fun hpre => ?_)
  refine LoopStop.mk (α := List UInt8) (fun a => [(0, .str a)]) (fun i => []) 20 (fun a => a.length ≤ 100000 ∧ trL a = trL s) (fun a => a.length) s ⟨hpre, rfl⟩ ?_ (fun a ha => ?_)
  · repeat' ((conv => whnf); first | (with_reducible rfl) | exact True.intro | (with_reducible exact absTF) | (with_reducible exact absFT) | intro _ | refine And.intro ?_ ?_ | refine Fin.mk ?_ | refine CallG.plain rfl ?_ ?_ | refine CallG.mk rfl ?_ ?_ | refine CallG.nwl rfl ?_ ?_ | refine CallG.nw ?_ ?_ | refine CallF.nwl rfl ?_ ?_ | refine CallF.nw ?_ ?_ | refine AppN.mk ?_ | (refine CallS.q ?_; (conv => whnf); first | refine CallG.plain rfl ?_ ?_ | refine CallG.mk rfl ?_ ?_) | (refine CallS.m ?_; (conv => whnf); refine CallM.mk rfl ?_ ?_) | (refine CallS.h ?_; (conv => whnf); refine CallM.mk rfl ?_ ?_) | (refine CallS.b ?_; (conv => whnf); refine CallM.mk rfl ?_ ?_) | (refine CallS.z ?_; (conv => whnf); refine CallM.mk rfl ?_ ?_))
    all_goals (try (conv => whnf))
    all_goals (try (exact Ob.mk (u8_bnd _)))
    all_goals (try (refine Ob.mk ?_; first | exact True.intro | assumption | omega | (try simp only [decide_eq_true_eq, decide_eq_false_iff_not, beq_iff_eq, beq_eq_false_iff_ne, bne_iff_ne, bne_eq_false_iff_eq, ne_eq, Bool.and_eq_true, Bool.or_eq_true, Bool.not_eq_true, Bool.not_eq_false, Bool.not_eq_true', Bool.not_eq_false', Int.toNat_natCast, Int.not_lt, Int.not_le, UInt8.ofNat_toNat, cast_eq] at *; omega)))
    all_goals (try ((show (_:Int) = _); omega))
    all_goals (try (show tupSV _ = _; with_unfolding_all rfl))
    all_goals (try ((show (_ : Nat) ≤ _); (simp <;> omega)))
    all_goals (try ((show (_ : Nat) ≤ _ ∧ (_ : Nat) ≤ _); (simp <;> omega)))
    all_goals (try ((show (_ : Int) ≤ _ ∧ (_ : Int) ≤ _ ∧ (_ : Int) ≤ _ ∧ (_ : Int) ≤ _); (simp <;> omega)))
  · obtain ⟨ha1, ha2⟩ := ha
    have hh := trL_head a
    repeat' ((conv => whnf); first | (with_reducible rfl) | exact True.intro | (with_reducible exact absTF) | (with_reducible exact absFT) | intro _ | refine And.intro ?_ ?_ | refine Fin.mk ?_ | refine CallG.plain rfl ?_ ?_ | refine CallG.mk rfl ?_ ?_ | refine CallG.nwl rfl ?_ ?_ | refine CallG.nw ?_ ?_ | refine CallF.nwl rfl ?_ ?_ | refine CallF.nw ?_ ?_ | refine AppN.mk ?_ | (refine CallS.q ?_; (conv => whnf); first | refine CallG.plain rfl ?_ ?_ | refine CallG.mk rfl ?_ ?_) | (refine CallS.m ?_; (conv => whnf); refine CallM.mk rfl ?_ ?_) | (refine CallS.h ?_; (conv => whnf); refine CallM.mk rfl ?_ ?_) | (refine CallS.b ?_; (conv => whnf); refine CallM.mk rfl ?_ ?_) | (refine CallS.z ?_; (conv => whnf); refine CallM.mk rfl ?_ ?_))
    all_goals (try (conv => whnf))
    all_goals (try (exact Ob.mk (u8_bnd _)))
    all_goals (try (refine Ob.mk ?_; first | exact True.intro | assumption | omega | (try simp only [decide_eq_true_eq, decide_eq_false_iff_not, beq_iff_eq, beq_eq_false_iff_ne, bne_iff_ne, bne_eq_false_iff_eq, ne_eq, Bool.and_eq_true, Bool.or_eq_true, Bool.not_eq_true, Bool.not_eq_false, Bool.not_eq_true', Bool.not_eq_false', Int.toNat_natCast, Int.not_lt, Int.not_le, UInt8.ofNat_toNat, cast_eq] at *; omega)))
    all_goals (try ((show (_:Int) = _); omega))
    all_goals (try (show tupSV _ = _; with_unfolding_all rfl))
    all_goals (try ((show (_ : Nat) ≤ _); (simp <;> omega)))
    all_goals (try ((show (_ : Nat) ≤ _ ∧ (_ : Nat) ≤ _); (simp <;> omega)))
    all_goals (try ((show (_ : Int) ≤ _ ∧ (_ : Int) ≤ _ ∧ (_ : Int) ≤ _ ∧ (_ : Int) ≤ _); (simp <;> omega)))
    · have h := Bool.and_eq_true_iff.1 ‹_ = true›
      have h1 : (0 : Int) < a.length := of_decide_eq_true h.1
      have h2 : leB (a.getD 0 0) = true := (le_u8 _).symm.trans h.2
      have h3 := hh (by intro h0; rw [h0] at h1; simp at h1)
      rw [h2] at h3
      refine Rnd.mk ⟨a.drop 1, ⟨by rw [List.length_drop]; omega, h3.symm.trans ha2⟩, by rw [List.length_drop]; omega, ?_⟩
      repeat' ((conv => whnf); first | (with_reducible rfl) | exact True.intro | (with_reducible exact absTF) | (with_reducible exact absFT) | intro _ | refine And.intro ?_ ?_ | refine Fin.mk ?_ | refine CallG.plain rfl ?_ ?_ | refine CallG.mk rfl ?_ ?_ | refine CallG.nwl rfl ?_ ?_ | refine CallG.nw ?_ ?_ | refine CallF.nwl rfl ?_ ?_ | refine CallF.nw ?_ ?_ | refine AppN.mk ?_ | (refine CallS.q ?_; (conv => whnf); first | refine CallG.plain rfl ?_ ?_ | refine CallG.mk rfl ?_ ?_) | (refine CallS.m ?_; (conv => whnf); refine CallM.mk rfl ?_ ?_) | (refine CallS.h ?_; (conv => whnf); refine CallM.mk rfl ?_ ?_) | (refine CallS.b ?_; (conv => whnf); refine CallM.mk rfl ?_ ?_) | (refine CallS.z ?_; (conv => whnf); refine CallM.mk rfl ?_ ?_))
      all_goals (try (conv => whnf))
      all_goals (try (exact Ob.mk (u8_bnd _)))
      all_goals (try (refine Ob.mk ?_; first | exact True.intro | assumption | omega | (try simp only [decide_eq_true_eq, decide_eq_false_iff_not, beq_iff_eq, beq_eq_false_iff_ne, bne_iff_ne, bne_eq_false_iff_eq, ne_eq, Bool.and_eq_true, Bool.or_eq_true, Bool.not_eq_true, Bool.not_eq_false, Bool.not_eq_true', Bool.not_eq_false', Int.toNat_natCast, Int.not_lt, Int.not_le, UInt8.ofNat_toNat, cast_eq] at *; omega)))
      all_goals (try ((show (_:Int) = _); omega))
      all_goals (try (show tupSV _ = _; with_unfolding_all rfl))
      all_goals (try ((show (_ : Nat) ≤ _); (simp <;> omega)))
      all_goals (try ((show (_ : Nat) ≤ _ ∧ (_ : Nat) ≤ _); (simp <;> omega)))
      all_goals (try ((show (_ : Int) ≤ _ ∧ (_ : Int) ≤ _ ∧ (_ : Int) ≤ _ ∧ (_ : Int) ≤ _); (simp <;> omega)))
      all_goals rfl
    · have hb : a = trL s := by
        rw [← ha2]
        by_cases h0 : a = []
        · rw [h0]; rfl
        · have h1 : decide (((a.length : Nat) : Int) > 0) = true := decide_eq_true (by have := List.length_pos_iff.2 h0; omega)
          have h := ‹(decide (((a.length : Nat) : Int) > 0) && decide (((a.getD (Int.toNat 0) 0).toNat : Int) ≤ 32)) = false›
          rw [h1, Bool.true_and] at h
          have h2 : leB (a.getD 0 0) = false := (le_u8 _).symm.trans h
          have h3 := hh h0
          rw [h2] at h3
          exact h3.symm
      refine LoopStop.mk (α := List UInt8) (fun a => [(0, .str a)]) (fun i => []) 20 (fun b => b.length ≤ 100000 ∧ trR b = trR (trL s)) (fun a => a.length) a ⟨ha1, by rw [hb]⟩ ?_ (fun b hb => ?_)
      · repeat' ((conv => whnf); first | (with_reducible rfl) | exact True.intro | (with_reducible exact absTF) | (with_reducible exact absFT) | intro _ | refine And.intro ?_ ?_ | refine Fin.mk ?_ | refine CallG.plain rfl ?_ ?_ | refine CallG.mk rfl ?_ ?_ | refine CallG.nwl rfl ?_ ?_ | refine CallG.nw ?_ ?_ | refine CallF.nwl rfl ?_ ?_ | refine CallF.nw ?_ ?_ | refine AppN.mk ?_ | (refine CallS.q ?_; (conv => whnf); first | refine CallG.plain rfl ?_ ?_ | refine CallG.mk rfl ?_ ?_) | (refine CallS.m ?_; (conv => whnf); refine CallM.mk rfl ?_ ?_) | (refine CallS.h ?_; (conv => whnf); refine CallM.mk rfl ?_ ?_) | (refine CallS.b ?_; (conv => whnf); refine CallM.mk rfl ?_ ?_) | (refine CallS.z ?_; (conv => whnf); refine CallM.mk rfl ?_ ?_))
        all_goals (try (conv => whnf))
        all_goals (try (exact Ob.mk (u8_bnd _)))
        all_goals (try (refine Ob.mk ?_; first | exact True.intro | assumption | omega | (try simp only [decide_eq_true_eq, decide_eq_false_iff_not, beq_iff_eq, beq_eq_false_iff_ne, bne_iff_ne, bne_eq_false_iff_eq, ne_eq, Bool.and_eq_true, Bool.or_eq_true, Bool.not_eq_true, Bool.not_eq_false, Bool.not_eq_true', Bool.not_eq_false', Int.toNat_natCast, Int.not_lt, Int.not_le, UInt8.ofNat_toNat, cast_eq] at *; omega)))
        all_goals (try ((show (_:Int) = _); omega))
        all_goals (try (show tupSV _ = _; with_unfolding_all rfl))
        all_goals (try ((show (_ : Nat) ≤ _); (simp <;> omega)))
        all_goals (try ((show (_ : Nat) ≤ _ ∧ (_ : Nat) ≤ _); (simp <;> omega)))
        all_goals (try ((show (_ : Int) ≤ _ ∧ (_ : Int) ≤ _ ∧ (_ : Int) ≤ _ ∧ (_ : Int) ≤ _); (simp <;> omega)))
      · obtain ⟨hb1, hb2⟩ := hb
        have hh := trR_last b
        repeat' ((conv => whnf); first | (with_reducible rfl) | exact True.intro | (with_reducible exact absTF) | (with_reducible exact absFT) | intro _ | refine And.intro ?_ ?_ | refine Fin.mk ?_ | refine CallG.plain rfl ?_ ?_ | refine CallG.mk rfl ?_ ?_ | refine CallG.nwl rfl ?_ ?_ | refine CallG.nw ?_ ?_ | refine CallF.nwl rfl ?_ ?_ | refine CallF.nw ?_ ?_ | refine AppN.mk ?_ | (refine CallS.q ?_; (conv => whnf); first | refine CallG.plain rfl ?_ ?_ | refine CallG.mk rfl ?_ ?_) | (refine CallS.m ?_; (conv => whnf); refine CallM.mk rfl ?_ ?_) | (refine CallS.h ?_; (conv => whnf); refine CallM.mk rfl ?_ ?_) | (refine CallS.b ?_; (conv => whnf); refine CallM.mk rfl ?_ ?_) | (refine CallS.z ?_; (conv => whnf); refine CallM.mk rfl ?_ ?_))
        all_goals (try (conv => whnf))
        all_goals (try (exact Ob.mk (u8_bnd _)))
        all_goals (try (refine Ob.mk ?_; first | exact True.intro | assumption | omega | (try simp only [decide_eq_true_eq, decide_eq_false_iff_not, beq_iff_eq, beq_eq_false_iff_ne, bne_iff_ne, bne_eq_false_iff_eq, ne_eq, Bool.and_eq_true, Bool.or_eq_true, Bool.not_eq_true, Bool.not_eq_false, Bool.not_eq_true', Bool.not_eq_false', Int.toNat_natCast, Int.not_lt, Int.not_le, UInt8.ofNat_toNat, cast_eq] at *; omega)))
        all_goals (try ((show (_:Int) = _); omega))
        all_goals (try (show tupSV _ = _; with_unfolding_all rfl))
        all_goals (try ((show (_ : Nat) ≤ _); (simp <;> omega)))
        all_goals (try ((show (_ : Nat) ≤ _ ∧ (_ : Nat) ≤ _); (simp <;> omega)))
        all_goals (try ((show (_ : Int) ≤ _ ∧ (_ : Int) ≤ _ ∧ (_ : Int) ≤ _ ∧ (_ : Int) ≤ _); (simp <;> omega)))
        · have h := Bool.and_eq_true_iff.1 ‹(decide (((b.length : Nat) : Int) > 0) && decide (((b.getD ((b.length : Int) - 1).toNat 0).toNat : Int) ≤ 32)) = true›
          have h1 : (0 : Int) < b.length := of_decide_eq_true h.1
          have e : ((b.length : Int) - 1).toNat = b.length - 1 := by omega
          rw [e] at h
          have h2 : leB (b.getD (b.length - 1) 0) = true := (le_u8 _).symm.trans h.2
          have h3 := hh (by intro h0; rw [h0] at h1; simp at h1)
          rw [h2] at h3
          refine Rnd.mk ⟨b.take (b.length - 1), ⟨by rw [List.length_take]; omega, h3.symm.trans hb2⟩, by rw [List.length_take]; omega, ?_⟩
          repeat' ((conv => whnf); first | (with_reducible rfl) | exact True.intro | (with_reducible exact absTF) | (with_reducible exact absFT) | intro _ | refine And.intro ?_ ?_ | refine Fin.mk ?_ | refine CallG.plain rfl ?_ ?_ | refine CallG.mk rfl ?_ ?_ | refine CallG.nwl rfl ?_ ?_ | refine CallG.nw ?_ ?_ | refine CallF.nwl rfl ?_ ?_ | refine CallF.nw ?_ ?_ | refine AppN.mk ?_ | (refine CallS.q ?_; (conv => whnf); first | refine CallG.plain rfl ?_ ?_ | refine CallG.mk rfl ?_ ?_) | (refine CallS.m ?_; (conv => whnf); refine CallM.mk rfl ?_ ?_) | (refine CallS.h ?_; (conv => whnf); refine CallM.mk rfl ?_ ?_) | (refine CallS.b ?_; (conv => whnf); refine CallM.mk rfl ?_ ?_) | (refine CallS.z ?_; (conv => whnf); refine CallM.mk rfl ?_ ?_))
          all_goals (try (conv => whnf))
          all_goals (try (exact Ob.mk (u8_bnd _)))
          all_goals (try (refine Ob.mk ?_; first | exact True.intro | assumption | omega | (try simp only [decide_eq_true_eq, decide_eq_false_iff_not, beq_iff_eq, beq_eq_false_iff_ne, bne_iff_ne, bne_eq_false_iff_eq, ne_eq, Bool.and_eq_true, Bool.or_eq_true, Bool.not_eq_true, Bool.not_eq_false, Bool.not_eq_true', Bool.not_eq_false', Int.toNat_natCast, Int.not_lt, Int.not_le, UInt8.ofNat_toNat, cast_eq] at *; omega)))
          all_goals (try ((show (_:Int) = _); omega))
          all_goals (try (show tupSV _ = _; with_unfolding_all rfl))
          all_goals (try ((show (_ : Nat) ≤ _); (simp <;> omega)))
          all_goals (try ((show (_ : Nat) ≤ _ ∧ (_ : Nat) ≤ _); (simp <;> omega)))
          all_goals (try ((show (_ : Int) ≤ _ ∧ (_ : Int) ≤ _ ∧ (_ : Int) ≤ _ ∧ (_ : Int) ≤ _); (simp <;> omega)))
          all_goals (rw [e])
        · have hc : b = trR (trL s) := by
            rw [← hb2]
            by_cases h0 : b = []
            · rw [h0]; rfl
            · have h1 : decide (((b.length : Nat) : Int) > 0) = true := decide_eq_true (by have := List.length_pos_iff.2 h0; omega)
              have h := ‹(decide (((b.length : Nat) : Int) > 0) && decide (((b.getD ((b.length : Int) - 1).toNat 0).toNat : Int) ≤ 32)) = false›
              have e : ((b.length : Int) - 1).toNat = b.length - 1 := by have := List.length_pos_iff.2 h0; omega
              rw [h1, Bool.true_and, e] at h
              have h2 : leB (b.getD (b.length - 1) 0) = false := (le_u8 _).symm.trans h
              have h3 := hh h0
              rw [h2] at h3
              exact h3.symm
          unfold bareL
          rw [← hc]
          have key : ∀ c : UInt8, (((c.toNat : Int) != 9) && ((c.toNat : Int) != 10) && ((c.toNat : Int) != 13)) = okC c := fun c => by
            unfold okC
            rw [show ((c.toNat : Int) != 9) = !((c.toNat : Int) == 9) from rfl, show ((c.toNat : Int) != 10) = !((c.toNat : Int) == 10) from rfl, show ((c.toNat : Int) != 13) = !((c.toNat : Int) == 13) from rfl, k9, k10, k13]
            cases c == 9 <;> cases c == 10 <;> cases c == 13 <;> rfl
          refine LoopStop.mk (α := Nat) (fun i => [(4, .int .i64 i), (3, .str ((b.take i).filter okC))]) (fun i => []) 20 (fun i => i ≤ b.length) (fun i => b.length + 1 - i) 0 (by simp) ?_ (fun i hi => ?_)
          · repeat' ((conv => whnf); first | (with_reducible rfl) | exact True.intro | (with_reducible exact absTF) | (with_reducible exact absFT) | intro _ | refine And.intro ?_ ?_ | refine Fin.mk ?_ | refine CallG.plain rfl ?_ ?_ | refine CallG.mk rfl ?_ ?_ | refine CallG.nwl rfl ?_ ?_ | refine CallG.nw ?_ ?_ | refine CallF.nwl rfl ?_ ?_ | refine CallF.nw ?_ ?_ | refine AppN.mk ?_ | (refine CallS.q ?_; (conv => whnf); first | refine CallG.plain rfl ?_ ?_ | refine CallG.mk rfl ?_ ?_) | (refine CallS.m ?_; (conv => whnf); refine CallM.mk rfl ?_ ?_) | (refine CallS.h ?_; (conv => whnf); refine CallM.mk rfl ?_ ?_) | (refine CallS.b ?_; (conv => whnf); refine CallM.mk rfl ?_ ?_) | (refine CallS.z ?_; (conv => whnf); refine CallM.mk rfl ?_ ?_))
            all_goals (try (conv => whnf))
            all_goals (try (exact Ob.mk (u8_bnd _)))
            all_goals (try (refine Ob.mk ?_; first | exact True.intro | assumption | omega | (try simp only [decide_eq_true_eq, decide_eq_false_iff_not, beq_iff_eq, beq_eq_false_iff_ne, bne_iff_ne, bne_eq_false_iff_eq, ne_eq, Bool.and_eq_true, Bool.or_eq_true, Bool.not_eq_true, Bool.not_eq_false, Bool.not_eq_true', Bool.not_eq_false', Int.toNat_natCast, Int.not_lt, Int.not_le, UInt8.ofNat_toNat, cast_eq] at *; omega)))
            all_goals (try ((show (_:Int) = _); omega))
            all_goals (try (show tupSV _ = _; with_unfolding_all rfl))
            all_goals (try ((show (_ : Nat) ≤ _); (simp <;> omega)))
            all_goals (try ((show (_ : Nat) ≤ _ ∧ (_ : Nat) ≤ _); (simp <;> omega)))
            all_goals (try ((show (_ : Int) ≤ _ ∧ (_ : Int) ≤ _ ∧ (_ : Int) ≤ _ ∧ (_ : Int) ≤ _); (simp <;> omega)))
            all_goals rfl
          · have hfl : ((b.take i).filter okC).length ≤ 100000 := Nat.le_trans (List.length_filter_le _ _) (by rw [List.length_take]; omega)
            have hst := fun h => filt_step b i h
            have e1 : ((i : Int) + 1).toNat = i + 1 := by omega
            repeat' ((conv => whnf); first | (with_reducible rfl) | exact True.intro | (with_reducible exact absTF) | (with_reducible exact absFT) | intro _ | refine And.intro ?_ ?_ | refine Fin.mk ?_ | refine CallG.plain rfl ?_ ?_ | refine CallG.mk rfl ?_ ?_ | refine CallG.nwl rfl ?_ ?_ | refine CallG.nw ?_ ?_ | refine CallF.nwl rfl ?_ ?_ | refine CallF.nw ?_ ?_ | refine AppN.mk ?_ | (refine CallS.q ?_; (conv => whnf); first | refine CallG.plain rfl ?_ ?_ | refine CallG.mk rfl ?_ ?_) | (refine CallS.m ?_; (conv => whnf); refine CallM.mk rfl ?_ ?_) | (refine CallS.h ?_; (conv => whnf); refine CallM.mk rfl ?_ ?_) | (refine CallS.b ?_; (conv => whnf); refine CallM.mk rfl ?_ ?_) | (refine CallS.z ?_; (conv => whnf); refine CallM.mk rfl ?_ ?_))
            all_goals (try (conv => whnf))
            all_goals (try (exact Ob.mk (u8_bnd _)))
            all_goals (try (refine Ob.mk ?_; first | exact True.intro | assumption | omega | (try simp only [decide_eq_true_eq, decide_eq_false_iff_not, beq_iff_eq, beq_eq_false_iff_ne, bne_iff_ne, bne_eq_false_iff_eq, ne_eq, Bool.and_eq_true, Bool.or_eq_true, Bool.not_eq_true, Bool.not_eq_false, Bool.not_eq_true', Bool.not_eq_false', Int.toNat_natCast, Int.not_lt, Int.not_le, UInt8.ofNat_toNat, cast_eq] at *; omega)))
            all_goals (try ((show (_:Int) = _); omega))
            all_goals (try (show tupSV _ = _; with_unfolding_all rfl))
            all_goals (try ((show (_ : Nat) ≤ _); (simp <;> omega)))
            all_goals (try ((show (_ : Nat) ≤ _ ∧ (_ : Nat) ≤ _); (simp <;> omega)))
            all_goals (try ((show (_ : Int) ≤ _ ∧ (_ : Int) ≤ _ ∧ (_ : Int) ≤ _ ∧ (_ : Int) ≤ _); (simp <;> omega)))
            all_goals (try simp only [Int.toNat_natCast] at *)
            · have hl := of_decide_eq_true ‹decide ((i : Int) < (b.length : Int)) = true›
              have hk : okC (b.getD i 0) = true := (key _).symm.trans ‹_ = true›
              have hst := hst (by omega)
              rw [hk] at hst
              refine Rnd.mk ⟨i + 1, by omega, by omega, ?_⟩
              repeat' ((conv => whnf); first | (with_reducible rfl) | exact True.intro | (with_reducible exact absTF) | (with_reducible exact absFT) | intro _ | refine And.intro ?_ ?_ | refine Fin.mk ?_ | refine CallG.plain rfl ?_ ?_ | refine CallG.mk rfl ?_ ?_ | refine CallG.nwl rfl ?_ ?_ | refine CallG.nw ?_ ?_ | refine CallF.nwl rfl ?_ ?_ | refine CallF.nw ?_ ?_ | refine AppN.mk ?_ | (refine CallS.q ?_; (conv => whnf); first | refine CallG.plain rfl ?_ ?_ | refine CallG.mk rfl ?_ ?_) | (refine CallS.m ?_; (conv => whnf); refine CallM.mk rfl ?_ ?_) | (refine CallS.h ?_; (conv => whnf); refine CallM.mk rfl ?_ ?_) | (refine CallS.b ?_; (conv => whnf); refine CallM.mk rfl ?_ ?_) | (refine CallS.z ?_; (conv => whnf); refine CallM.mk rfl ?_ ?_))
              all_goals (try (conv => whnf))
              all_goals (try (exact Ob.mk (u8_bnd _)))
              all_goals (try (refine Ob.mk ?_; first | exact True.intro | assumption | omega | (try simp only [decide_eq_true_eq, decide_eq_false_iff_not, beq_iff_eq, beq_eq_false_iff_ne, bne_iff_ne, bne_eq_false_iff_eq, ne_eq, Bool.and_eq_true, Bool.or_eq_true, Bool.not_eq_true, Bool.not_eq_false, Bool.not_eq_true', Bool.not_eq_false', Int.toNat_natCast, Int.not_lt, Int.not_le, UInt8.ofNat_toNat, cast_eq] at *; omega)))
              all_goals (try ((show (_:Int) = _); omega))
              all_goals (try (show tupSV _ = _; with_unfolding_all rfl))
              all_goals (try ((show (_ : Nat) ≤ _); (simp <;> omega)))
              all_goals (try ((show (_ : Nat) ≤ _ ∧ (_ : Nat) ≤ _); (simp <;> omega)))
              all_goals (try ((show (_ : Int) ≤ _ ∧ (_ : Int) ≤ _ ∧ (_ : Int) ≤ _ ∧ (_ : Int) ≤ _); (simp <;> omega)))
              all_goals (rw [e1, filt1 b i (by omega), hst]; rfl)
            · have hl := of_decide_eq_true ‹decide ((i : Int) < (b.length : Int)) = true›
              have hk : okC (b.getD i 0) = false := (key _).symm.trans ‹_ = false›
              have hst := hst (by omega)
              rw [hk] at hst
              refine Rnd.mk ⟨i + 1, by omega, by omega, ?_⟩
              repeat' ((conv => whnf); first | (with_reducible rfl) | exact True.intro | (with_reducible exact absTF) | (with_reducible exact absFT) | intro _ | refine And.intro ?_ ?_ | refine Fin.mk ?_ | refine CallG.plain rfl ?_ ?_ | refine CallG.mk rfl ?_ ?_ | refine CallG.nwl rfl ?_ ?_ | refine CallG.nw ?_ ?_ | refine CallF.nwl rfl ?_ ?_ | refine CallF.nw ?_ ?_ | refine AppN.mk ?_ | (refine CallS.q ?_; (conv => whnf); first | refine CallG.plain rfl ?_ ?_ | refine CallG.mk rfl ?_ ?_) | (refine CallS.m ?_; (conv => whnf); refine CallM.mk rfl ?_ ?_) | (refine CallS.h ?_; (conv => whnf); refine CallM.mk rfl ?_ ?_) | (refine CallS.b ?_; (conv => whnf); refine CallM.mk rfl ?_ ?_) | (refine CallS.z ?_; (conv => whnf); refine CallM.mk rfl ?_ ?_))
              all_goals (try (conv => whnf))
              all_goals (try (exact Ob.mk (u8_bnd _)))
              all_goals (try (refine Ob.mk ?_; first | exact True.intro | assumption | omega | (try simp only [decide_eq_true_eq, decide_eq_false_iff_not, beq_iff_eq, beq_eq_false_iff_ne, bne_iff_ne, bne_eq_false_iff_eq, ne_eq, Bool.and_eq_true, Bool.or_eq_true, Bool.not_eq_true, Bool.not_eq_false, Bool.not_eq_true', Bool.not_eq_false', Int.toNat_natCast, Int.not_lt, Int.not_le, UInt8.ofNat_toNat, cast_eq] at *; omega)))
              all_goals (try ((show (_:Int) = _); omega))
              all_goals (try (show tupSV _ = _; with_unfolding_all rfl))
              all_goals (try ((show (_ : Nat) ≤ _); (simp <;> omega)))
              all_goals (try ((show (_ : Nat) ≤ _ ∧ (_ : Nat) ≤ _); (simp <;> omega)))
              all_goals (try ((show (_ : Int) ≤ _ ∧ (_ : Int) ≤ _ ∧ (_ : Int) ≤ _ ∧ (_ : Int) ≤ _); (simp <;> omega)))
              all_goals (rw [hst]; simp)
            · have hl := of_decide_eq_false ‹decide ((i : Int) < (b.length : Int)) = false›
              have : i = b.length := by omega
              rw [this, List.take_length]
end Go.Vc

namespace Go.Vc
open Go.Proofs
set_option linter.unusedVariables false
set_option maxRecDepth 10000
set_option linter.unusedSimpArgs false
set_option maxHeartbeats 4000000
theorem k58 (c : UInt8) : ((c.toNat : Int) == 58) = (c == 58) := u8b c 58 (by decide)
theorem okA_r (c : UInt8) (i : Nat) : (!alI (c.toNat : Int) && ((i : Int) == 0 || ((c.toNat : Int) != 43 && (c.toNat : Int) != 45 && (c.toNat : Int) != 46 && (decide ((c.toNat : Int) < 48) || decide ((c.toNat : Int) > 57))))) = !okA c i := by
  unfold okA extB
  have h0 : ((i : Int) == 0) = (i == 0) := by rw [Bool.eq_iff_iff]; simp
  rw [h0]
  have h1 : decide ((c.toNat : Int) < 48) = !decide (48 ≤ (c.toNat : Int)) := by rw [Bool.eq_iff_iff]; simp
  have h2 : decide ((c.toNat : Int) > 57) = !decide ((c.toNat : Int) ≤ 57) := by rw [Bool.eq_iff_iff]; simp
  rw [h1, h2, show ((c.toNat : Int) != 43) = !((c.toNat : Int) == 43) from rfl, show ((c.toNat : Int) != 45) = !((c.toNat : Int) == 45) from rfl, show ((c.toNat : Int) != 46) = !((c.toNat : Int) == 46) from rfl]
  cases alI (c.toNat : Int) <;> cases (i == 0) <;> cases ((c.toNat : Int) == 43) <;> cases ((c.toNat : Int) == 45) <;> cases ((c.toNat : Int) == 46) <;> cases decide (48 ≤ (c.toNat : Int)) <;> cases decide ((c.toNat : Int) ≤ 57) <;> rfl
theorem okA_58 (i : Nat) : okA 58 i = false := by unfold okA; have : alI ((58 : UInt8).toNat : Int) = false := by decide
                                                  have h2 : extB ((58 : UInt8).toNat : Int) = false := by decide
                                                  rw [this, h2]; simp
/-- a place that may not be: no scheme -/
theorem schL_no (t : List UInt8) (i : Nat) (hi : i < t.length) (hb : okA (t.getD i 0) i = false) (hn : ∀ j, j < i → t.getD j 0 ≠ 58) (hc : ¬ (t.getD i 0 = 58 ∧ 0 < i)) : schL t = ([], false) := by
  rcases index1_spec t 58 with ⟨h1, h2⟩ | ⟨k, h1, h2, h3, h4⟩
  · exact schL_none t h1
  · rcases Nat.lt_trichotomy k i with h | h | h
    · exact absurd h3 (hn k h)
    · subst h
      have : k = 0 := by
        rcases Nat.eq_zero_or_pos k with h | h
        · exact h
        · exact absurd ⟨h3, h⟩ hc
      subst this
      exact schL_zero t h1
    · exact schL_bad t k i h1 (by omega) h hb
instance lRScheme (s : List UInt8) : Fn BB 15 [.str s] (s.length ≤ 100000) (.tup [.str (schL (bareL s)).1, .bool (schL (bareL s)).2]) := by
  refine Fn.intro (N := 54) [0, 2, 3, 4, 5, 11, 22, 53] [] Tryd.call15 Tryd.func15 rfl rfl (by kernel_rfl) (fun hpre => ?_)
  have hb := bareL_len s
  repeat' ((conv => whnf); first | (with_reducible rfl) | exact True.intro | (with_reducible exact absTF) | (with_reducible exact absFT) | intro _ | refine And.intro ?_ ?_ | refine Fin.mk ?_ | refine CallG.plain rfl ?_ ?_ | refine CallG.mk rfl ?_ ?_ | refine CallG.nwl rfl ?_ ?_ | refine CallG.nw ?_ ?_ | refine CallF.nwl rfl ?_ ?_ | refine CallF.nw ?_ ?_ | refine AppN.mk ?_ | (refine CallS.q ?_; (conv => whnf); first | refine CallG.plain rfl ?_ ?_ | refine CallG.mk rfl ?_ ?_) | (refine CallS.m ?_; (conv => whnf); refine CallM.mk rfl ?_ ?_) | (refine CallS.h ?_; (conv => whnf); refine CallM.mk rfl ?_ ?_) | (refine CallS.b ?_; (conv => whnf); refine CallM.mk rfl ?_ ?_) | (refine CallS.z ?_; (conv => whnf); refine CallM.mk rfl ?_ ?_))
  all_goals (try (conv => whnf))
  all_goals (try (exact Ob.mk (u8_bnd _)))
  all_goals (try (refine Ob.mk ?_; first | exact True.intro | assumption | omega | (try simp only [decide_eq_true_eq, decide_eq_false_iff_not, beq_iff_eq, beq_eq_false_iff_ne, bne_iff_ne, bne_eq_false_iff_eq, ne_eq, Bool.and_eq_true, Bool.or_eq_true, Bool.not_eq_true, Bool.not_eq_false, Bool.not_eq_true', Bool.not_eq_false', Int.toNat_natCast, Int.not_lt, Int.not_le, UInt8.ofNat_toNat, cast_eq] at *; omega)))
  all_goals (try ((show (_:Int) = _); omega))
  all_goals (try (show tupSV _ = _; with_unfolding_all rfl))
  all_goals (try ((show (_ : Nat) ≤ _); (simp <;> omega)))
  all_goals (try ((show (_ : Nat) ≤ _ ∧ (_ : Nat) ≤ _); (simp <;> omega)))
  all_goals (try ((show (_ : Int) ≤ _ ∧ (_ : Int) ≤ _ ∧ (_ : Int) ≤ _ ∧ (_ : Int) ≤ _); (simp <;> omega)))
  generalize bareL s = t at *
  refine LoopStop.mk (α := Nat) (fun i => [(4, .int .i64 i)]) (fun i => []) 20 (fun i => i ≤ t.length ∧ ∀ j, j < i → okA (t.getD j 0) j = true ∧ t.getD j 0 ≠ 58) (fun i => t.length + 1 - i) 0 ⟨by omega, fun j hj => absurd hj (by omega)⟩ ?_ (fun i hi => ?_)
  · repeat' ((conv => whnf); first | (with_reducible rfl) | exact True.intro | (with_reducible exact absTF) | (with_reducible exact absFT) | intro _ | refine And.intro ?_ ?_ | refine Fin.mk ?_ | refine CallG.plain rfl ?_ ?_ | refine CallG.mk rfl ?_ ?_ | refine CallG.nwl rfl ?_ ?_ | refine CallG.nw ?_ ?_ | refine CallF.nwl rfl ?_ ?_ | refine CallF.nw ?_ ?_ | refine AppN.mk ?_ | (refine CallS.q ?_; (conv => whnf); first | refine CallG.plain rfl ?_ ?_ | refine CallG.mk rfl ?_ ?_) | (refine CallS.m ?_; (conv => whnf); refine CallM.mk rfl ?_ ?_) | (refine CallS.h ?_; (conv => whnf); refine CallM.mk rfl ?_ ?_) | (refine CallS.b ?_; (conv => whnf); refine CallM.mk rfl ?_ ?_) | (refine CallS.z ?_; (conv => whnf); refine CallM.mk rfl ?_ ?_))
    all_goals (try (conv => whnf))
    all_goals (try (exact Ob.mk (u8_bnd _)))
    all_goals (try (refine Ob.mk ?_; first | exact True.intro | assumption | omega | (try simp only [decide_eq_true_eq, decide_eq_false_iff_not, beq_iff_eq, beq_eq_false_iff_ne, bne_iff_ne, bne_eq_false_iff_eq, ne_eq, Bool.and_eq_true, Bool.or_eq_true, Bool.not_eq_true, Bool.not_eq_false, Bool.not_eq_true', Bool.not_eq_false', Int.toNat_natCast, Int.not_lt, Int.not_le, UInt8.ofNat_toNat, cast_eq] at *; omega)))
    all_goals (try ((show (_:Int) = _); omega))
    all_goals (try (show tupSV _ = _; with_unfolding_all rfl))
    all_goals (try ((show (_ : Nat) ≤ _); (simp <;> omega)))
    all_goals (try ((show (_ : Nat) ≤ _ ∧ (_ : Nat) ≤ _); (simp <;> omega)))
    all_goals (try ((show (_ : Int) ≤ _ ∧ (_ : Int) ≤ _ ∧ (_ : Int) ≤ _ ∧ (_ : Int) ≤ _); (simp <;> omega)))
  · obtain ⟨hi1, hi2⟩ := hi
    repeat' ((conv => whnf); first | (with_reducible rfl) | exact True.intro | (with_reducible exact absTF) | (with_reducible exact absFT) | intro _ | refine And.intro ?_ ?_ | refine Fin.mk ?_ | refine CallG.plain rfl ?_ ?_ | refine CallG.mk rfl ?_ ?_ | refine CallG.nwl rfl ?_ ?_ | refine CallG.nw ?_ ?_ | refine CallF.nwl rfl ?_ ?_ | refine CallF.nw ?_ ?_ | refine AppN.mk ?_ | (refine CallS.q ?_; (conv => whnf); first | refine CallG.plain rfl ?_ ?_ | refine CallG.mk rfl ?_ ?_) | (refine CallS.m ?_; (conv => whnf); refine CallM.mk rfl ?_ ?_) | (refine CallS.h ?_; (conv => whnf); refine CallM.mk rfl ?_ ?_) | (refine CallS.b ?_; (conv => whnf); refine CallM.mk rfl ?_ ?_) | (refine CallS.z ?_; (conv => whnf); refine CallM.mk rfl ?_ ?_))
    all_goals (try (conv => whnf))
    all_goals (try (exact Ob.mk (u8_bnd _)))
    all_goals (try (refine Ob.mk ?_; first | exact True.intro | assumption | omega | (try simp only [decide_eq_true_eq, decide_eq_false_iff_not, beq_iff_eq, beq_eq_false_iff_ne, bne_iff_ne, bne_eq_false_iff_eq, ne_eq, Bool.and_eq_true, Bool.or_eq_true, Bool.not_eq_true, Bool.not_eq_false, Bool.not_eq_true', Bool.not_eq_false', Int.toNat_natCast, Int.not_lt, Int.not_le, UInt8.ofNat_toNat, cast_eq] at *; omega)))
    all_goals (try ((show (_:Int) = _); omega))
    all_goals (try (show tupSV _ = _; with_unfolding_all rfl))
    all_goals (try ((show (_ : Nat) ≤ _); (simp <;> omega)))
    all_goals (try ((show (_ : Nat) ≤ _ ∧ (_ : Nat) ≤ _); (simp <;> omega)))
    all_goals (try ((show (_ : Int) ≤ _ ∧ (_ : Int) ≤ _ ∧ (_ : Int) ≤ _ ∧ (_ : Int) ≤ _); (simp <;> omega)))
    all_goals (try simp only [Int.toNat_natCast] at *)
    all_goals (first
      | (have h := Bool.and_eq_true_iff.1 ‹(((t.getD i 0).toNat : Int) == 58 && decide ((i : Int) > 0)) = true›
         have hl := of_decide_eq_true ‹decide ((i : Int) < (t.length : Int)) = true›
         have h0 := of_decide_eq_true h.2
         have hc : t.getD i 0 = 58 := beq_iff_eq.1 ((k58 _).symm.trans h.1)
         rw [schL_good t i (index1_first t 58 i (by omega) hc (fun j hj => (hi2 j hj).2)) (by omega) (by omega) (fun j hj => (hi2 j hj).1)]
         done)
      | (have h := (okA_r (t.getD i 0) i).symm.trans ‹_ = true›
         have hl := of_decide_eq_true ‹decide ((i : Int) < (t.length : Int)) = true›
         rw [schL_no t i (by omega) (by simpa using h) (fun j hj => (hi2 j hj).2) (fun hh => by
           have h7 := ‹(((t.getD i 0).toNat : Int) == 58 && decide ((i : Int) > 0)) = false›
           rw [k58, hh.1, beq_self_eq_true, decide_eq_true (show (i : Int) > 0 by have := hh.2; omega)] at h7
           cases h7)]
         done)
      | (have hl := of_decide_eq_false ‹decide ((i : Int) < (t.length : Int)) = false›
         have : i = t.length := by omega
         subst this
         rw [schL_none t (index1_none t 58 (fun j hj => (hi2 j hj).2))]
         done)
      | skip)
    · have h := (okA_r (t.getD i 0) i).symm.trans ‹_ = false›
      have hl := of_decide_eq_true ‹decide ((i : Int) < (t.length : Int)) = true›
      have h : okA (t.getD i 0) i = true := by simpa using h
      refine Rnd.mk ⟨i + 1, ⟨by omega, fun j hj => ?_⟩, by omega, ?_⟩
      · by_cases h5 : j < i
        · exact hi2 j h5
        · have : j = i := by omega
          subst this
          exact ⟨h, fun hc => by rw [hc, okA_58] at h; cases h⟩
      · repeat' ((conv => whnf); first | (with_reducible rfl) | exact True.intro | (with_reducible exact absTF) | (with_reducible exact absFT) | intro _ | refine And.intro ?_ ?_ | refine Fin.mk ?_ | refine CallG.plain rfl ?_ ?_ | refine CallG.mk rfl ?_ ?_ | refine CallG.nwl rfl ?_ ?_ | refine CallG.nw ?_ ?_ | refine CallF.nwl rfl ?_ ?_ | refine CallF.nw ?_ ?_ | refine AppN.mk ?_ | (refine CallS.q ?_; (conv => whnf); first | refine CallG.plain rfl ?_ ?_ | refine CallG.mk rfl ?_ ?_) | (refine CallS.m ?_; (conv => whnf); refine CallM.mk rfl ?_ ?_) | (refine CallS.h ?_; (conv => whnf); refine CallM.mk rfl ?_ ?_) | (refine CallS.b ?_; (conv => whnf); refine CallM.mk rfl ?_ ?_) | (refine CallS.z ?_; (conv => whnf); refine CallM.mk rfl ?_ ?_))
        all_goals (try (conv => whnf))
        all_goals (try (exact Ob.mk (u8_bnd _)))
        all_goals (try (refine Ob.mk ?_; first | exact True.intro | assumption | omega | (try simp only [decide_eq_true_eq, decide_eq_false_iff_not, beq_iff_eq, beq_eq_false_iff_ne, bne_iff_ne, bne_eq_false_iff_eq, ne_eq, Bool.and_eq_true, Bool.or_eq_true, Bool.not_eq_true, Bool.not_eq_false, Bool.not_eq_true', Bool.not_eq_false', Int.toNat_natCast, Int.not_lt, Int.not_le, UInt8.ofNat_toNat, cast_eq] at *; omega)))
        all_goals (try ((show (_:Int) = _); omega))
        all_goals (try (show tupSV _ = _; with_unfolding_all rfl))
        all_goals (try ((show (_ : Nat) ≤ _); (simp <;> omega)))
        all_goals (try ((show (_ : Nat) ≤ _ ∧ (_ : Nat) ≤ _); (simp <;> omega)))
        all_goals (try ((show (_ : Int) ≤ _ ∧ (_ : Int) ≤ _ ∧ (_ : Int) ≤ _ ∧ (_ : Int) ≤ _); (simp <;> omega)))
def alwL (L : List (List UInt8)) (s : List UInt8) : Bool := !(schL (bareL s)).2 || L.contains (schL (bareL s)).1
instance lAllow (L : List (List UInt8)) (s : List UInt8) : Fn BB 20 [.rd .str L, .str s] (s.length ≤ 100000) (.bool (alwL L s)) := by
  refine Fn.intro (N := 19) [0, 1, 4, 5, 6] [] Tryd.call20 Tryd.func20 rfl rfl (by kernel_rfl) (fun hpre => ?_)
  repeat' ((conv => whnf); first | (with_reducible rfl) | exact True.intro | (with_reducible exact absTF) | (with_reducible exact absFT) | intro _ | refine And.intro ?_ ?_ | refine Fin.mk ?_ | refine CallG.plain rfl ?_ ?_ | refine CallG.mk rfl ?_ ?_ | refine CallG.nwl rfl ?_ ?_ | refine CallG.nw ?_ ?_ | refine CallF.nwl rfl ?_ ?_ | refine CallF.nw ?_ ?_ | refine AppN.mk ?_ | (refine CallS.q ?_; (conv => whnf); first | refine CallG.plain rfl ?_ ?_ | refine CallG.mk rfl ?_ ?_) | (refine CallS.m ?_; (conv => whnf); refine CallM.mk rfl ?_ ?_) | (refine CallS.h ?_; (conv => whnf); refine CallM.mk rfl ?_ ?_) | (refine CallS.b ?_; (conv => whnf); refine CallM.mk rfl ?_ ?_) | (refine CallS.z ?_; (conv => whnf); refine CallM.mk rfl ?_ ?_))
  all_goals (try (conv => whnf))
  all_goals (try (exact Ob.mk (u8_bnd _)))
  all_goals (try (refine Ob.mk ?_; first | exact True.intro | assumption | omega | (try simp only [decide_eq_true_eq, decide_eq_false_iff_not, beq_iff_eq, beq_eq_false_iff_ne, bne_iff_ne, bne_eq_false_iff_eq, ne_eq, Bool.and_eq_true, Bool.or_eq_true, Bool.not_eq_true, Bool.not_eq_false, Bool.not_eq_true', Bool.not_eq_false', Int.toNat_natCast, Int.not_lt, Int.not_le, UInt8.ofNat_toNat, cast_eq] at *; omega)))
  all_goals (try ((show (_:Int) = _); omega))
  all_goals (try (show tupSV _ = _; with_unfolding_all rfl))
  all_goals (try ((show (_ : Nat) ≤ _); (simp <;> omega)))
  all_goals (try ((show (_ : Nat) ≤ _ ∧ (_ : Nat) ≤ _); (simp <;> omega)))
  all_goals (try ((show (_ : Int) ≤ _ ∧ (_ : Int) ≤ _ ∧ (_ : Int) ≤ _ ∧ (_ : Int) ≤ _); (simp <;> omega)))
  rw [W.ixOf_has]; rfl
end Go.Vc
