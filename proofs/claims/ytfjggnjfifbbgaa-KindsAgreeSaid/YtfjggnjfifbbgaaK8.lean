/- A part of the proof: lemmas and walks that the last text of the claim joins; no condition. -/
import Derived.Test.YtfjggnjfifbbgaaK7
namespace Go.Vc
open Go.Proofs
set_option linter.unusedVariables false
set_option maxRecDepth 10000
set_option linter.unusedSimpArgs false
def BOcc (s w : List UInt8) (j : Nat) : Prop := Lib.occAt s w j = true ∧ (j = 0 ∨ isSp (s.getD (j-1) 0).toNat = true) ∧ (j + w.length = s.length ∨ isSp (s.getD (j + w.length) 0).toNat = true)
/-- no word begins ahead of it -/
def NoB (s w : List UInt8) (a : Nat) : Prop := ∀ j, j < a → ¬ BOcc s w j
theorem occ_cut (s : List UInt8) (j i : Nat) (h : j ≤ i) (h2 : i ≤ s.length) : Lib.occAt s (cut s (j, i)) j = true := by
  unfold Lib.occAt cut
  rw [List.isPrefixOf_iff_prefix]
  simp only [Int.toNat_natCast]
  rw [List.drop_take]
  exact List.take_prefix _ _
theorem cut_len (s : List UInt8) (j i : Nat) (h : j ≤ i) (h2 : i ≤ s.length) : (cut s (j, i)).length = i - j := by
  simp [cut]; omega
theorem spAt_words (s : List UInt8) (i : Nat) (h : i ≤ s.length) :
    (∀ x ∈ (spAt s i).1, ¬ x = [] ∧ ∃ j, BOcc s x j) ∧ ∃ j, j ≤ i ∧ (spAt s i).2 = cut s ((j:Nat), (i:Nat)) ∧ (j = 0 ∨ isSp (s.getD (j-1) 0).toNat = true) := by
  induction i with
  | zero => exact ⟨by simp [spAt], 0, by simp, by simp [spAt, cut], Or.inl rfl⟩
  | succ i ih =>
    obtain ⟨ih1, j, hj, e, hb⟩ := ih (by omega)
    have es := spAt_succ s i (by omega)
    cases hc : isSp (s.getD i 0).toNat with
    | false =>
      rw [spStep_no hc] at es
      rw [es]
      exact ⟨ih1, j, by omega, by rw [cut_more s j i hj (by omega), ← e], hb⟩
    | true =>
      by_cases h2 : (spAt s i).2 = []
      · rw [spStep_sp hc h2] at es
        rw [es]
        exact ⟨ih1, i + 1, by omega, by simp [cut], Or.inr (by simpa using hc)⟩
      · rw [spStep_spw hc h2] at es
        rw [es]
        refine ⟨fun x hx => ?_, i + 1, by omega, by simp [cut], Or.inr (by simpa using hc)⟩
        rcases List.mem_append.mp hx with hx | hx
        · exact ih1 x hx
        · simp only [List.mem_singleton] at hx
          subst hx
          refine ⟨h2, j, ?_⟩
          rw [e]
          refine ⟨occ_cut s j i hj (by omega), hb, Or.inr ?_⟩
          rw [cut_len s j i hj (by omega)]
          have : j + (i - j) = i := by omega
          rw [this]; exact hc
theorem spl_words (s x : List UInt8) (h : (spl s).contains x = true) : ¬ x = [] ∧ ∃ j, BOcc s x j := by
  have hx : x ∈ spl s := by simpa using h
  obtain ⟨h1, j, hj, e, hb⟩ := spAt_words s s.length (Nat.le_refl _)
  by_cases h2 : (spAt s s.length).2 = []
  · rw [spl_e (Nat.le_refl _) h2] at hx; exact h1 x hx
  · rw [spl_w (Nat.le_refl _) h2] at hx
    rcases List.mem_append.mp hx with hx | hx
    · exact h1 x hx
    · simp only [List.mem_singleton] at hx
      subst hx
      refine ⟨h2, j, ?_⟩
      rw [e]
      refine ⟨occ_cut s j _ hj (Nat.le_refl _), hb, Or.inl ?_⟩
      rw [cut_len s j _ hj (Nat.le_refl _)]; omega
theorem spl_empty (s x : List UInt8) (h : x = []) : (spl s).contains x = false := by
  cases e : (spl s).contains x with
  | false => rfl
  | true => exact absurd h (spl_words s x e).1
theorem spl_noB (s x : List UInt8) (n : Nat) (hn : s.length ≤ n) (h0 : ¬ x = []) (h : NoB s x n) : (spl s).contains x = false := by
  cases e : (spl s).contains x with
  | false => rfl
  | true =>
    obtain ⟨j, hj⟩ := (spl_words s x e).2
    rcases Lib.occAt_room hj.1 with k | k
    · have : 0 < x.length := List.length_pos_iff.mpr h0
      exact absurd hj (h j (by omega))
    · exact absurd k h0
theorem least (f : Nat → Bool) (n : Nat) (h : f n = true) : ∃ m, f m = true ∧ ∀ j, j < m → f j = false := by
  induction n using Nat.strongRecOn with
  | _ n ih =>
    by_cases hh : ∃ j, j < n ∧ f j = true
    · obtain ⟨j, h1, h2⟩ := hh
      exact ih j h1 h2
    · refine ⟨n, h, fun j hj => ?_⟩
      cases e : f j with
      | false => rfl
      | true => exact absurd ⟨j, hj, e⟩ hh
theorem ixs (s w : List UInt8) (i : Nat) (hi : i ≤ s.length) (h0 : ¬ w = []) :
    (Lib.index (s.drop i) w = -1 ∧ ∀ j, i ≤ j → Lib.occAt s w j = false) ∨
    ∃ p : Nat, Lib.index (s.drop i) w = p ∧ i + p + w.length ≤ s.length ∧ Lib.occAt s w (i + p) = true ∧ ∀ j, i ≤ j → j < i + p → Lib.occAt s w j = false := by
  have sh : ∀ q, Lib.occAt (s.drop i) w q = Lib.occAt s w (i + q) := fun q => by simp [Lib.occAt, List.drop_drop]
  by_cases hh : ∃ q, Lib.occAt (s.drop i) w q = true
  · right
    obtain ⟨q, hq⟩ := hh
    obtain ⟨p, hd, hm⟩ := least _ q hq
    refine ⟨p, ?_⟩
    have hr : i + p + w.length ≤ s.length := by
      rcases Lib.occAt_room hd with k | k
      · have : 0 < w.length := List.length_pos_iff.mpr h0
        simp at k; omega
      · exact absurd k h0
    refine ⟨Lib.index_first (by simp; omega) hd hm, hr, by rw [← sh]; exact hd, fun j h1 h2 => ?_⟩
    have := hm (j - i) (by omega)
    rw [sh] at this
    have e : i + (j - i) = j := by omega
    rwa [e] at this
  · left
    have hm : ∀ q, Lib.occAt (s.drop i) w q = false := fun q => by
      cases e : Lib.occAt (s.drop i) w q with
      | false => rfl
      | true => exact absurd ⟨q, e⟩ hh
    refine ⟨Lib.index_none fun j _ => hm j, fun j h1 => ?_⟩
    have := hm (j - i)
    rw [sh] at this
    have e : i + (j - i) = j := by omega
    rwa [e] at this
end Go.Vc
