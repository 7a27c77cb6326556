/- A part of the proof: lemmas and walks that the last text of the claim joins; no condition. -/
import Derived.Test.YtfjggnjfifbbgaaK6
import Derived.Test.YtfjggnjfifbbgaaKShelf
namespace Go.Vc
open Go.Proofs
set_option linter.unusedVariables false
set_option maxRecDepth 10000
set_option linter.unusedSimpArgs false
instance f33 (s : List UInt8) : Fn BB 33 [.str s] (s.length ≤ 100000) (.rd 1 [] encS (spl s)) := by
  refine Fn.intro (N := 5) [0,2] Try.call33 Try.func33 rfl rfl (by kernel_rfl) (fun hpre => ?_)
  repeat' ((conv => whnf); first | (with_reducible rfl) | exact True.intro | (with_reducible exact absTF) | (with_reducible exact absFT) | intro _ | refine And.intro ?_ ?_ | refine Fin.mk ?_ | refine CallQ.mk rfl ?_ ?_ | refine CallG.plain rfl ?_ ?_ | refine CallG.mk rfl ?_ ?_)
  all_goals (try (conv => whnf))
  all_goals (try (refine Ob.mk ?_; first | exact True.intro | assumption | omega | (try simp only [decide_eq_true_eq, decide_eq_false_iff_not, beq_iff_eq, beq_eq_false_iff_ne, bne_iff_ne, ne_eq, Bool.and_eq_true, Bool.or_eq_true, Bool.not_eq_true, Bool.not_eq_false, Bool.not_eq_true', Bool.not_eq_false', Int.toNat_natCast, Int.not_lt, Int.not_le] at *; omega)))
  all_goals (try ((show (_:Int) = _); omega))
  all_goals (try (show tupSV _ = _; with_unfolding_all rfl))
  all_goals (try ((show (_ : Nat) ≤ _); (simp <;> omega)))
  all_goals (try ((show (_ : Nat) ≤ _ ∧ (_ : Nat) ≤ _); (simp <;> omega)))
  all_goals (try ((show (_ : Int) ≤ _ ∧ (_ : Int) ≤ _ ∧ (_ : Int) ≤ _ ∧ (_ : Int) ≤ _); (simp <;> omega)))
instance f30 (s t : List UInt8) : Fn BB 30 [.str s, .str t] (s.length ≤ 4294967280) (.int .i64 (Lib.index s t)) := by
  refine Fn.lift Try.call30 fun hp r β w vs hG m hl => ?_
  obtain ⟨rfl, h1, h2⟩ := hl.str2
  obtain ⟨c, T, fr, mm, e1, e2⟩ := hG
  have e3 := m.vis 0 _ e1
  exact ⟨_, Try.strings_Index ⟨s.toArray⟩ ⟨t.toArray⟩ mm w (by show s.toArray.size < _; simp; omega) (by simp [World.cell?, e3, e2]), .int⟩
end Go.Vc
