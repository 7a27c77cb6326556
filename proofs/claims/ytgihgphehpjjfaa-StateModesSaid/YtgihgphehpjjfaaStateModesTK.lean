/- Proved: the law StateModes returns true for every argument and leaves the arguments as they were; no condition. -/
import Derived.Test.YtgihgphehpjjfaaStateModesTI
import Derived.Test.YtgihgphehpjjfaaStateModesVJ
import Derived.Test.YtgihgphehpjjfaaRows
set_option linter.unusedVariables false
set_option linter.unusedSimpArgs false
set_option maxHeartbeats 8000000
namespace Go.Proofs.Ytgihgphehpjjfaa
open Go.ChangeShapes Go.WideShapes Go.ChangeAt Go.RowKit Go.Vc
set_option linter.unusedVariables false
set_option maxRecDepth 100000
namespace stateModes
def pars : List Par := [(9, false, .str), (3, false, .int .i64)]
theorem ct : ∀ svs, ArgsSV pars svs → Ct BB 7 svs [] fun sv Φ => sv = .bool true ∧ Φ = [] := by
  intro svs h
  cases h with
  | cons x0 hw0 h =>
  cases h with
  | cons x1 hw1 h =>
  cases h
  obtain ⟨ins, rfl⟩ : ∃ z, z = x0 := ⟨_, rfl⟩
  obtain ⟨md, rfl⟩ : ∃ z, z = x1 := ⟨_, rfl⟩
  exact (wModes ins md).ok True.intro
theorem spec (H : Type) (ds : List (DataW H)) (h : ds.length = pars.length) : (Rows.stateModesSpec.fn H ds).results = [.lit (.bool true)] ∧ (Rows.stateModesSpec.fn H ds).args = ds ∧ (Rows.stateModesSpec.fn H ds).vars = [] := by
  match ds, h with
  | [d0, d1], _ => exact ⟨rfl, rfl, rfl⟩
theorem contract (H : Type) (enc : TypeId × Value → H) (W : World) (base : Nat) (args : Array Value) (ds gs : List (DataW H)) (before : List MemPlace)
    (hval : ∀ (j : Nat) t v, Try.f7.params[j]? = some t → args[j]? = some v → Value.okWide Try.prog W .any base t v)
    (hW : DataW.Whole enc Try.prog Try.f7.params.toList Rows.stateModesSpec.vars false W args.toList ds gs before) (hsh : W.ShapedOpen Try.prog) :
    Calls Try.prog 7 args W fun e W' => ∃ v, e = .returned v ∧ Rows.stateModesSpec.post enc Try.prog Try.f7 false true false false W args v W' :=
  law_contract (B := BB) (P := Try.prog) (fn := Try.f7) pars (tb := 4) rfl (by kernel_rfl) (by kernel_rfl) (by kernel_rfl) rfl (spec H) (by kernel_rfl) Try.underlying4 base_ok ct W base args ds gs before hval hW hsh
theorem lifted (os : Os) (started : os.Started) (H : Type) (enc : TypeId × Value → H) :
    ReturnsInHanded {} Try.checked os 7 .any (Rows.stateModesSpec.pre6 enc Try.prog Try.f7 Rows.stateModesRow.domain false) (Rows.stateModesSpec.post enc Try.prog Try.f7 false true false false) := by
  refine returnsInHanded_of_change_shaped (C := Try.checked) (by kernel_rfl) started (by kernel_rfl) Try.func7
    (ChangeSpec.witness6 (enc := enc) (C := Try.checked) false ⟨#[], #[.string ⟨#[]⟩, .int .i64 0], []⟩ 8 (by kernel_rfl) (by kernel_rfl) (by kernel_rfl) (by kernel_rfl)) ?_
  intro W base args ds gs before hval hW _ _ hsh _
  exact contract H enc W base args ds gs before hval hW hsh
theorem over : Rows.stateModesRow.holds Try.pinned (OpenSpec.ofChange Rows.stateModesSpec) :=
  OpenClaim.holds_of_wide 7 Try.f7 rfl rfl rfl rfl rfl rfl rfl ⟨rfl, rfl, rfl, rfl, rfl⟩ rfl rfl rfl rfl rfl (by kernel_rfl) Try.func7 (by kernel_rfl)
    (of_decide_eq_true (by kernel_rfl)) (by unfold Func.isWrapper; first | (rw [if_pos (by decide +kernel)]; kernel_rfl) | (rw [if_neg (by decide +kernel)]; exact ⟨rfl, rfl⟩))
    (fun os started H enc _ => lifted os started H enc)
theorem proved : Rows.StateModesSaid := over
end stateModes
end Go.Proofs.Ytgihgphehpjjfaa
