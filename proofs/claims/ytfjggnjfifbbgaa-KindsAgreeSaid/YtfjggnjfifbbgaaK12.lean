/- A part of the proof: lemmas and walks that the last text of the claim joins; no condition. -/
import Derived.Test.YtfjggnjfifbbgaaK11
namespace Go.Vc
open Go.Proofs
set_option linter.unusedVariables false
set_option maxRecDepth 10000
set_option linter.unusedSimpArgs false
instance f5 : Fn BB 5 [] True (.bool true) := by
  refine Fn.intro (N := 34) [0] Try.call5 Try.func5 rfl rfl (by kernel_rfl) (fun hpre => ?_)
  repeat' ((conv => whnf); first | (with_reducible rfl) | exact True.intro | (with_reducible exact absTF) | (with_reducible exact absFT) | intro _ | refine And.intro ?_ ?_ | refine Fin.mk ?_ | refine CallQ.mk rfl ?_ ?_ | refine CallG.plain rfl ?_ ?_ | refine CallG.mk rfl ?_ ?_)
  all_goals (try (conv => whnf))
  all_goals (try (refine Ob.mk ?_; first | exact True.intro | assumption | omega | (try simp only [decide_eq_true_eq, decide_eq_false_iff_not, beq_iff_eq, beq_eq_false_iff_ne, bne_iff_ne, ne_eq, Bool.and_eq_true, Bool.or_eq_true, Bool.not_eq_true, Bool.not_eq_false, Bool.not_eq_true', Bool.not_eq_false', Int.toNat_natCast, Int.not_lt, Int.not_le] at *; omega)))
  all_goals (try ((show (_:Int) = _); omega))
  all_goals (try (show tupSV _ = _; with_unfolding_all rfl))
  all_goals (try ((show (_ : Nat) ≤ _); (simp <;> omega)))
  all_goals (try ((show (_ : Nat) ≤ _ ∧ (_ : Nat) ≤ _); (simp <;> omega)))
  all_goals (try ((show (_ : Int) ≤ _ ∧ (_ : Int) ≤ _ ∧ (_ : Int) ≤ _ ∧ (_ : Int) ≤ _); (simp <;> omega)))
  all_goals (decide +kernel)
instance f3 (sc sp : Int) (nm : List UInt8) : Fn BB 3 [.int .i64 sc, .int .i64 sp, .str nm] True (.bool true) := by
  refine Fn.intro (N := 102) [0, 1, 2, 6, 7, 8, 11] Try.call3 Try.func3 rfl rfl (by kernel_rfl) (fun hpre => ?_)
  repeat' ((conv => whnf); first | (with_reducible rfl) | exact True.intro | (with_reducible exact absTF) | (with_reducible exact absFT) | intro _ | refine And.intro ?_ ?_ | refine Fin.mk ?_ | refine CallQ.mk rfl ?_ ?_ | refine CallG.plain rfl ?_ ?_ | refine CallG.mk rfl ?_ ?_)
  all_goals (try (conv => whnf))
  all_goals (try (refine Ob.mk ?_; first | exact True.intro | assumption | omega | (try simp only [decide_eq_true_eq, decide_eq_false_iff_not, beq_iff_eq, beq_eq_false_iff_ne, bne_iff_ne, ne_eq, Bool.and_eq_true, Bool.or_eq_true, Bool.not_eq_true, Bool.not_eq_false, Bool.not_eq_true', Bool.not_eq_false', Int.toNat_natCast, Int.not_lt, Int.not_le] at *; omega)))
  all_goals (try ((show (_:Int) = _); omega))
  all_goals (try (show tupSV _ = _; with_unfolding_all rfl))
  all_goals (try ((show (_ : Nat) ≤ _); (simp <;> omega)))
  all_goals (try ((show (_ : Nat) ≤ _ ∧ (_ : Nat) ≤ _); (simp <;> omega)))
  all_goals (try ((show (_ : Int) ≤ _ ∧ (_ : Int) ≤ _ ∧ (_ : Int) ≤ _ ∧ (_ : Int) ≤ _); (simp <;> omega)))
  all_goals simp
theorem has_sub {c d : List UInt8} (h : ((spl c).all fun x => (spl d).contains x) = true) {nm : List UInt8} (hh : has c nm = true) : has d nm = true := by
  unfold has at *
  rw [List.all_eq_true] at h
  exact h nm (by simpa using hh)
theorem agree1 (sp : Int) (nm : List UInt8) : ((kHtml sp nm cHead || kHtml sp nm cVoid) && !kSpecial sp nm || kStops 3 sp nm && !kStops 0 sp nm) = false := by
  have h1 := has_sub (c := cHead) (d := cSpecial) (by decide +kernel) (nm := nm)
  have h2 := has_sub (c := cVoid) (d := cSpecial) (by decide +kernel) (nm := nm)
  have h3 := has_sub (c := cTable) (d := cEnds) (by decide +kernel) (nm := nm)
  unfold kSpecial kStops kHtml
  simp only [Bool.or_eq_false_iff, Bool.and_eq_false_iff]
  cases e0 : sp == 0 <;> cases e1 : has cHead nm <;> cases e2 : has cVoid nm <;> cases e3 : has cTable nm <;> simp_all
theorem agree2 (sp : Int) (nm : List UInt8) : ((!kStops 0 sp nm || kStops 1 sp nm && kStops 2 sp nm) && true) = true := by
  unfold kStops
  simp only [Bool.and_true]
  cases e : (kForeign sp nm || kHtml sp nm cEnds) <;> simp
instance f4 (sp : Int) (nm : List UInt8) : Fn BB 4 [.int .i64 sp, .str nm] True (.bool true) := by
  refine Fn.intro (N := 51) [0, 1, 4, 7, 33] Try.call4 Try.func4 rfl rfl (by kernel_rfl) (fun hpre => ?_)
  repeat' ((conv => whnf); first | (with_reducible rfl) | exact True.intro | (with_reducible exact absTF) | (with_reducible exact absFT) | intro _ | refine And.intro ?_ ?_ | refine Fin.mk ?_ | refine CallQ.mk rfl ?_ ?_ | refine CallG.plain rfl ?_ ?_ | refine CallG.mk rfl ?_ ?_)
  all_goals (try (conv => whnf))
  all_goals (try (refine Ob.mk ?_; first | exact True.intro | assumption | omega | (try simp only [decide_eq_true_eq, decide_eq_false_iff_not, beq_iff_eq, beq_eq_false_iff_ne, bne_iff_ne, ne_eq, Bool.and_eq_true, Bool.or_eq_true, Bool.not_eq_true, Bool.not_eq_false, Bool.not_eq_true', Bool.not_eq_false', Int.toNat_natCast, Int.not_lt, Int.not_le] at *; omega)))
  all_goals (try ((show (_:Int) = _); omega))
  all_goals (try (show tupSV _ = _; with_unfolding_all rfl))
  all_goals (try ((show (_ : Nat) ≤ _); (simp <;> omega)))
  all_goals (try ((show (_ : Nat) ≤ _ ∧ (_ : Nat) ≤ _); (simp <;> omega)))
  all_goals (try ((show (_ : Int) ≤ _ ∧ (_ : Int) ≤ _ ∧ (_ : Int) ≤ _ ∧ (_ : Int) ≤ _); (simp <;> omega)))
  · rename_i h
    exact absurd (agree1 sp nm) (by rw [h]; decide)
  · rw [agree2]
end Go.Vc
