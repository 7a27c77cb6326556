/- Proved: the law StackScopes returns true for every argument and leaves the arguments as they were; no condition. -/
import Derived.Test.YtfbkhpkneioecaaTO
import Derived.Test.YtfbkhpkneioecaaVcP
import Derived.Test.YtfbkhpkneioecaaRows
set_option linter.unusedVariables false
set_option linter.unusedSimpArgs false
namespace Go.Proofs.Ytfbkhpkneioecaa
open Go.ChangeShapes Go.WideShapes Go.ChangeAt Go.RowKit Go.Vc
set_option linter.unusedVariables false
set_option maxRecDepth 100000
namespace stackScopes
def pars : List Par := [(29, true, .sl nodeTy), (32, false, .sl intTy), (9, false, .str)]
theorem ct : ∀ svs, ArgsSV pars svs → Ct BB 11 svs [] fun sv Φ => sv = .bool true ∧ Φ = [] := by
  intro svs h
  cases h with
  | cons x0 hw0 h =>
  cases h with
  | cons x1 hw1 h =>
  cases h with
  | cons x2 hw2 h =>
  cases h
  obtain ⟨t, rfl⟩ : ∃ z, z = x0 := ⟨_, rfl⟩
  obtain ⟨l, rfl⟩ : ∃ z, z = x1 := ⟨_, rfl⟩
  obtain ⟨nm, rfl⟩ : ∃ z, z = x2 := ⟨_, rfl⟩
  exact (s11 t l nm).ok True.intro
theorem spec (H : Type) (ds : List (DataW H)) (h : ds.length = pars.length) : (Rows.stackScopesSpec.fn H ds).results = [.lit (.bool true)] ∧ (Rows.stackScopesSpec.fn H ds).args = ds ∧ (Rows.stackScopesSpec.fn H ds).vars = [] := by
  match ds, h with
  | [d0, d1, d2], _ => exact ⟨rfl, rfl, rfl⟩
theorem contract (H : Type) (enc : TypeId × Value → H) (W : World) (base : Nat) (args : Array Value) (ds gs : List (DataW H)) (before : List MemPlace)
    (hval : ∀ (j : Nat) t v, Try.f11.params[j]? = some t → args[j]? = some v → Value.okWide Try.prog W .any base t v)
    (hW : DataW.Whole enc Try.prog Try.f11.params.toList Rows.stackScopesSpec.vars false W args.toList ds gs before) (hsh : W.ShapedOpen Try.prog) :
    Calls Try.prog 11 args W fun e W' => ∃ v, e = .returned v ∧ Rows.stackScopesSpec.post enc Try.prog Try.f11 false true false false W args v W' :=
  law_contract (B := BB) (P := Try.prog) (fn := Try.f11) pars (tb := 4) rfl (by kernel_rfl) (by kernel_rfl) (by kernel_rfl) rfl (spec H) (by kernel_rfl) Try.underlying4 base_ok ct W base args ds gs before hval hW hsh
theorem lifted (os : Os) (started : os.Started) (H : Type) (enc : TypeId × Value → H) :
    ReturnsInHanded {} Try.checked os 11 .any (Rows.stackScopesSpec.pre6 enc Try.prog Try.f11 Rows.stackScopesRow.domain false) (Rows.stackScopesSpec.post enc Try.prog Try.f11 false true false false) := by
  refine returnsInHanded_of_change_shaped (C := Try.checked) (by kernel_rfl) started (by kernel_rfl) Try.func11
    (ChangeSpec.witness6 (enc := enc) (C := Try.checked) false ⟨#[], #[.agg #[.slice none 0 0], .slice none 0 0, .string ⟨#[]⟩], []⟩ 8 (by kernel_rfl) (by kernel_rfl) (by kernel_rfl) (by kernel_rfl)) ?_
  intro W base args ds gs before hval hW _ _ hsh _
  exact contract H enc W base args ds gs before hval hW hsh
theorem over : Rows.stackScopesRow.holds Try.pinned (OpenSpec.ofChange Rows.stackScopesSpec) :=
  OpenClaim.holds_of_wide 11 Try.f11 rfl rfl rfl rfl rfl rfl rfl ⟨rfl, rfl, rfl, rfl, rfl⟩ rfl rfl rfl rfl rfl (by kernel_rfl) Try.func11 (by kernel_rfl)
    (of_decide_eq_true (by kernel_rfl)) (by unfold Func.isWrapper; first | (rw [if_pos (by decide +kernel)]; kernel_rfl) | (rw [if_neg (by decide +kernel)]; exact ⟨rfl, rfl⟩))
    (fun os started H enc _ => lifted os started H enc)
theorem proved : Rows.StackScopesSaid := over
end stackScopes
end Go.Proofs.Ytfbkhpkneioecaa
