/- A part of the proof: lemmas and walks that the last text of the claim joins; no condition. -/
import Derived.Test.YtfjggnjfifbbgaaK2
namespace Go.Vc
open Go.Proofs
set_option linter.unusedVariables false
set_option maxRecDepth 10000
set_option linter.unusedSimpArgs false

instance f29 (s w : List UInt8) : Fn BB 29 [.str s, .str w] (s.length ≤ 100000) (.bool ((spl s).contains w)) := by
  refine Fn.intro (N := 9) [0,1,4] Try.call29 Try.func29 rfl rfl (by kernel_rfl) (fun hpre => ?_)
  repeat' ((conv => whnf); first | (with_reducible rfl) | exact True.intro | (with_reducible exact absTF) | (with_reducible exact absFT) | intro _ | refine And.intro ?_ ?_ | refine Fin.mk ?_ | refine CallQ.mk rfl ?_ ?_ | refine CallG.plain rfl ?_ ?_ | refine CallG.mk rfl ?_ ?_)
  all_goals (try (conv => whnf))
  all_goals (try (refine Ob.mk ?_; first | exact True.intro | assumption | omega | (try simp only [decide_eq_true_eq, decide_eq_false_iff_not, beq_iff_eq, beq_eq_false_iff_ne, bne_iff_ne, ne_eq, Bool.and_eq_true, Bool.or_eq_true, Bool.not_eq_true, Bool.not_eq_false, Bool.not_eq_true', Bool.not_eq_false', Int.toNat_natCast, Int.not_lt, Int.not_le] at *; omega)))
  all_goals (try ((show (_:Int) = _); omega))
  all_goals (try ((show (_ : Nat) ≤ _); (simp <;> omega)))
  all_goals (try ((show (_ : Nat) ≤ _ ∧ (_ : Nat) ≤ _); (simp <;> omega)))
  all_goals (try ((show (_ : Int) ≤ _ ∧ (_ : Int) ≤ _ ∧ (_ : Int) ≤ _ ∧ (_ : Int) ≤ _); (simp <;> omega)))
theorem contains_of_getD {l : List (List UInt8)} {i : Nat} (h : i < l.length) : l.contains (l.getD i []) = true := by
  simp [List.getD, List.getElem?_eq_getElem h]
def ixOf (l : List (List UInt8)) (w : List UInt8) : Int := if l.contains w then (l.idxOf w : Int) else -1
theorem ixOf_none {l : List (List UInt8)} {w : List UInt8} (h : l.contains w = false) : ixOf l w = -1 := by rw [ixOf, h]; rfl
theorem ixOf_at {l : List (List UInt8)} {w : List UInt8} {i : Nat} (h : i < l.length) (h1 : (l.take i).contains w = false) (h2 : w = l.getD i []) : ixOf l w = i := by
  rw [ixOf, h2, contains_of_getD h, ← h2, if_pos rfl]
  have e := List.take_append_drop i l
  rw [← e, List.idxOf_append, if_neg (by simpa using h1), List.length_take, Nat.min_eq_left (by omega)]
  have e2 : l.drop i = w :: l.drop (i+1) := by rw [List.drop_eq_getElem_cons h, h2]; simp [List.getD, List.getElem?_eq_getElem h]
  rw [e2, List.idxOf_cons_self]; simp
instance f37 (l : List (List UInt8)) (w : List UInt8) : Fn BB 37 [.rd 1 [] encS l, .str w] True (.int .i64 (ixOf l w)) := by
  refine Fn.intro (N := 19) [0,1,4,5,7,8,9,16] Try.call37 Try.func37 rfl rfl (by kernel_rfl) (fun hpre => ?_)
  (conv => whnf)
  intro hlen
  (conv => whnf)
  refine LoopStop.mk (α := Nat) (fun i => [(8, .int .i64 i)]) (fun i => []) 0 (fun i => i ≤ l.length ∧ (l.take i).contains w = false) (fun i => l.length - i) 0 (by simp) ?_ (fun i hi => ?_)
  · repeat' ((conv => whnf); first | (with_reducible rfl) | exact True.intro | (with_reducible exact absTF) | (with_reducible exact absFT) | intro _ | refine And.intro ?_ ?_ | refine Fin.mk ?_ | refine CallQ.mk rfl ?_ ?_ | refine CallG.plain rfl ?_ ?_ | refine CallG.mk rfl ?_ ?_)
    all_goals (try (conv => whnf))
    all_goals (try rfl)
  · repeat' ((conv => whnf); first | (with_reducible rfl) | exact True.intro | (with_reducible exact absTF) | (with_reducible exact absFT) | intro _ | refine And.intro ?_ ?_ | refine Fin.mk ?_ | refine CallQ.mk rfl ?_ ?_ | refine CallG.plain rfl ?_ ?_ | refine CallG.mk rfl ?_ ?_)
    all_goals (try (conv => whnf))
    all_goals (try (refine Ob.mk ?_; first | exact True.intro | assumption | omega | (try simp only [decide_eq_true_eq, decide_eq_false_iff_not, beq_iff_eq, beq_eq_false_iff_ne, bne_iff_ne, ne_eq, Bool.and_eq_true, Bool.or_eq_true, Bool.not_eq_true, Bool.not_eq_false, Bool.not_eq_true', Bool.not_eq_false', Int.toNat_natCast, Int.not_lt, Int.not_le] at *; omega)))
    all_goals (try ((show (_:Int) = _); omega))
    all_goals (try ((show (_ : Nat) ≤ _); (simp <;> omega)))
    all_goals (try ((show (_ : Nat) ≤ _ ∧ (_ : Nat) ≤ _); (simp <;> omega)))
    all_goals (try ((show (_ : Int) ≤ _ ∧ (_ : Int) ≤ _ ∧ (_ : Int) ≤ _ ∧ (_ : Int) ≤ _); (simp <;> omega)))
    all_goals (try simp only [decide_eq_true_eq, decide_eq_false_iff_not, beq_iff_eq, beq_eq_false_iff_ne, bne_iff_ne, ne_eq, Bool.and_eq_true, Bool.or_eq_true, Bool.not_eq_true, Bool.not_eq_false, Bool.not_eq_true', Bool.not_eq_false', Int.toNat_natCast, Int.not_lt, Int.not_le] at *)
    · rw [ixOf_at (by omega) hi.2 ‹_›]
    · have h : i < l.length := by omega
      refine Rnd.mk ⟨i + 1, ?_, ?_, ?_⟩
      · refine ⟨by omega, ?_⟩
        rw [take_has l i w h, hi.2, Bool.false_or]; exact beq_eq_false_iff_ne.mpr (fun e => by simp_all)
      · omega
      · repeat' ((conv => whnf); first | (with_reducible rfl) | exact True.intro | (with_reducible exact absTF) | (with_reducible exact absFT) | intro _ | refine And.intro ?_ ?_ | refine Fin.mk ?_ | refine CallQ.mk rfl ?_ ?_ | refine CallG.plain rfl ?_ ?_ | refine CallG.mk rfl ?_ ?_)
        all_goals (try (conv => whnf))
        all_goals (try (refine Ob.mk ?_; first | exact True.intro | assumption | omega | (try simp only [decide_eq_true_eq, decide_eq_false_iff_not, beq_iff_eq, beq_eq_false_iff_ne, bne_iff_ne, ne_eq, Bool.and_eq_true, Bool.or_eq_true, Bool.not_eq_true, Bool.not_eq_false, Bool.not_eq_true', Bool.not_eq_false', Int.toNat_natCast, Int.not_lt, Int.not_le] at *; omega)))
        all_goals (try ((show (_:Int) = _); omega))
        all_goals (try ((show (_ : Nat) ≤ _); (simp <;> omega)))
        all_goals (try ((show (_ : Nat) ≤ _ ∧ (_ : Nat) ≤ _); (simp <;> omega)))
        all_goals (try ((show (_ : Int) ≤ _ ∧ (_ : Int) ≤ _ ∧ (_ : Int) ≤ _ ∧ (_ : Int) ≤ _); (simp <;> omega)))
    · have : i = l.length := by omega
      subst this
      rw [ixOf_none (by simpa using hi.2)]
instance f32 (l : List (List UInt8)) (w : List UInt8) : Fn BB 32 [.rd 1 [] encS l, .str w] True (.bool (decide (ixOf l w ≥ 0))) := by
  refine Fn.intro (N := 9) [0,1,4] Try.call32 Try.func32 rfl rfl (by kernel_rfl) (fun hpre => ?_)
  repeat' ((conv => whnf); first | (with_reducible rfl) | exact True.intro | (with_reducible exact absTF) | (with_reducible exact absFT) | intro _ | refine And.intro ?_ ?_ | refine Fin.mk ?_ | refine CallQ.mk rfl ?_ ?_ | refine CallG.plain rfl ?_ ?_ | refine CallG.mk rfl ?_ ?_)
  all_goals (try (conv => whnf))
  all_goals (try (refine Ob.mk ?_; first | exact True.intro | assumption | omega | (try simp only [decide_eq_true_eq, decide_eq_false_iff_not, beq_iff_eq, beq_eq_false_iff_ne, bne_iff_ne, ne_eq, Bool.and_eq_true, Bool.or_eq_true, Bool.not_eq_true, Bool.not_eq_false, Bool.not_eq_true', Bool.not_eq_false', Int.toNat_natCast, Int.not_lt, Int.not_le] at *; omega)))
  all_goals (try ((show (_:Int) = _); omega))
  all_goals (try ((show (_ : Nat) ≤ _); (simp <;> omega)))
  all_goals (try ((show (_ : Nat) ≤ _ ∧ (_ : Nat) ≤ _); (simp <;> omega)))
  all_goals (try ((show (_ : Int) ≤ _ ∧ (_ : Int) ≤ _ ∧ (_ : Int) ≤ _ ∧ (_ : Int) ≤ _); (simp <;> omega)))
end Go.Vc
