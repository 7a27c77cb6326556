/- Proved: the law ShapeSubs returns true for every argument and leaves the arguments as they were; no condition. -/
import Derived.Test.YtaieeeolaocoaaaShapeSubsTI
import Derived.Test.YtaieeeolaocoaaaShapeSubsVJ
import Derived.Test.YtaieeeolaocoaaaRows
set_option linter.unusedVariables false
set_option linter.unusedSimpArgs false
set_option maxHeartbeats 8000000
namespace Go.Proofs.Ytaieeeolaocoaaa
open Go.ChangeShapes Go.WideShapes Go.ChangeAt Go.RowKit Go.Vc
set_option linter.unusedVariables false
set_option maxRecDepth 100000
namespace shapeSubs
def pars : List Par := [(24,true,.sl zXK),(3,false,zXR)]
theorem ct : ∀ svs,ArgsSV pars svs → Ct BB 5 svs [] fun sv Φ => sv = .bool true ∧ Φ = [] := by
  intro svs h
  cases h with
  | cons x0 hw0 h =>
  cases h with
  | cons x1 hw1 h =>
  cases h
  obtain ⟨t,rfl⟩ : ∃ z,z = x0 := ⟨_,rfl⟩
  obtain ⟨i,rfl⟩ : ∃ z,z = x1 := ⟨_,rfl⟩
  exact (sSubs t i).ok True.intro
theorem spec (H : Type) (ds : List (DataW H)) (h : ds.length = pars.length) : (Rows.shapeSubsSpec.fn H ds).results = [.lit (.bool true)] ∧ (Rows.shapeSubsSpec.fn H ds).args = ds ∧ (Rows.shapeSubsSpec.fn H ds).vars = [] := by
  match ds,h with
  | [d0,d1],_ => exact ⟨rfl,rfl,rfl⟩
theorem contract (H : Type) (enc : TypeId × Value → H) (W : World) (base : Nat) (args : Array Value) (ds gs : List (DataW H)) (before : List MemPlace)
    (hval : ∀ (j : Nat) t v,Try.f5.params[j]? = some t → args[j]? = some v → Value.okWide Try.prog W .any base t v)
    (hW : DataW.Whole enc Try.prog Try.f5.params.toList Rows.shapeSubsSpec.vars false W args.toList ds gs before) (hsh : W.ShapedOpen Try.prog) :
    Calls Try.prog 5 args W fun e W' => ∃ v,e = .returned v ∧ Rows.shapeSubsSpec.post enc Try.prog Try.f5 false true false false W args v W' :=
  zmI (B := BB) (P := Try.prog) (fn := Try.f5) pars (tb := 4) rfl (by kernel_rfl) (by kernel_rfl) (by kernel_rfl) rfl (spec H) (by kernel_rfl) Try.underlying4 jAX ct W base args ds gs before hval hW hsh
theorem lifted (os : Os) (started : os.Started) (H : Type) (enc : TypeId × Value → H) :
    ReturnsInHanded {} Try.checked os 5 .any (Rows.shapeSubsSpec.pre6 enc Try.prog Try.f5 Rows.shapeSubsRow.domain false) (Rows.shapeSubsSpec.post enc Try.prog Try.f5 false true false false) := by
  refine returnsInHanded_of_change_shaped (C := Try.checked) (by kernel_rfl) started (by kernel_rfl) Try.func5
    (ChangeSpec.witness6 (enc := enc) (C := Try.checked) false ⟨#[], #[.agg #[.slice none 0 0],.int .i64 0],[]⟩ 8 (by kernel_rfl) (by kernel_rfl) (by kernel_rfl) (by kernel_rfl)) ?_
  intro W base args ds gs before hval hW _ _ hsh _
  exact contract H enc W base args ds gs before hval hW hsh
theorem over : Rows.shapeSubsRow.holds Try.pinned (OpenSpec.ofChange Rows.shapeSubsSpec) :=
  OpenClaim.holds_of_wide 5 Try.f5 rfl rfl rfl rfl rfl rfl rfl ⟨rfl,rfl,rfl,rfl,rfl⟩ rfl rfl rfl rfl rfl (by kernel_rfl) Try.func5 (by kernel_rfl)
    (of_decide_eq_true (by kernel_rfl)) (by unfold Func.isWrapper;first | (rw [if_pos (by decide +kernel)];kernel_rfl) | (rw [if_neg (by decide +kernel)];exact ⟨rfl,rfl⟩))
    (fun os started H enc _ => lifted os started H enc)
theorem proved : Rows.ShapeSubsSaid := over
end shapeSubs
end Go.Proofs.Ytaieeeolaocoaaa
