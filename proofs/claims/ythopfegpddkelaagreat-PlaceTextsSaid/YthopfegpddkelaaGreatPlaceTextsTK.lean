/- Proved: the law PlaceTexts returns true for every argument and leaves the arguments as they were; no condition. -/
import Derived.Test.YthopfegpddkelaaGreatPlaceTextsTI
import Derived.Test.YthopfegpddkelaaGreatPlaceTextsVJ
import Derived.Test.YthopfegpddkelaaGreatRows
set_option linter.unusedVariables false
set_option linter.unusedSimpArgs false
set_option maxHeartbeats 8000000
namespace Go.Proofs.YthopfegpddkelaaGreat
open Go.ChangeShapes Go.WideShapes Go.ChangeAt Go.RowKit Go.Vc
set_option linter.unusedVariables false
set_option maxRecDepth 100000
namespace placeTexts
def pars : List Par := [(9, false, .str), (22, false, .sl op18Ty)]
theorem ct : ∀ svs, ArgsSV pars svs → Ct BB 4 svs [] fun sv Φ => sv = .bool true ∧ Φ = [] := by
  intro svs h
  cases h with
  | cons x0 hw0 h =>
  cases h with
  | cons x1 hw1 h =>
  cases h
  obtain ⟨ins, rfl⟩ : ∃ z, z = x0 := ⟨_, rfl⟩
  obtain ⟨l, rfl⟩ : ∃ z, z = x1 := ⟨_, rfl⟩
  exact (xTexts ins l).ok True.intro
theorem spec (H : Type) (ds : List (DataW H)) (h : ds.length = pars.length) : (Rows.placeTextsSpec.fn H ds).results = [.lit (.bool true)] ∧ (Rows.placeTextsSpec.fn H ds).args = ds ∧ (Rows.placeTextsSpec.fn H ds).vars = [] := by
  match ds, h with
  | [d0, d1], _ => exact ⟨rfl, rfl, rfl⟩
theorem contract (H : Type) (enc : TypeId × Value → H) (W : World) (base : Nat) (args : Array Value) (ds gs : List (DataW H)) (before : List MemPlace)
    (hval : ∀ (j : Nat) t v, Tryz.f4.params[j]? = some t → args[j]? = some v → Value.okWide Tryz.prog W .any base t v)
    (hW : DataW.Whole enc Tryz.prog Tryz.f4.params.toList Rows.placeTextsSpec.vars false W args.toList ds gs before) (hsh : W.ShapedOpen Tryz.prog) :
    Calls Tryz.prog 4 args W fun e W' => ∃ v, e = .returned v ∧ Rows.placeTextsSpec.post enc Tryz.prog Tryz.f4 false true false false W args v W' :=
  law_contract (B := BB) (P := Tryz.prog) (fn := Tryz.f4) pars (tb := 4) rfl (by kernel_rfl) (by kernel_rfl) (by kernel_rfl) rfl (spec H) (by kernel_rfl) Tryz.underlying4 base_ok ct W base args ds gs before hval hW hsh
theorem lifted (os : Os) (started : os.Started) (H : Type) (enc : TypeId × Value → H) :
    ReturnsInHanded {} Tryz.checked os 4 .any (Rows.placeTextsSpec.pre6 enc Tryz.prog Tryz.f4 Rows.placeTextsRow.domain false) (Rows.placeTextsSpec.post enc Tryz.prog Tryz.f4 false true false false) := by
  refine returnsInHanded_of_change_shaped (C := Tryz.checked) (by kernel_rfl) started (by kernel_rfl) Tryz.func4
    (ChangeSpec.witness6 (enc := enc) (C := Tryz.checked) false ⟨#[], #[.string ⟨#[]⟩, .slice none 0 0], []⟩ 8 (by kernel_rfl) (by kernel_rfl) (by kernel_rfl) (by kernel_rfl)) ?_
  intro W base args ds gs before hval hW _ _ hsh _
  exact contract H enc W base args ds gs before hval hW hsh
theorem over : Rows.placeTextsRow.holds Tryz.pinned (OpenSpec.ofChange Rows.placeTextsSpec) :=
  OpenClaim.holds_of_wide 4 Tryz.f4 rfl rfl rfl rfl rfl rfl rfl ⟨rfl, rfl, rfl, rfl, rfl⟩ rfl rfl rfl rfl rfl (by kernel_rfl) Tryz.func4 (by kernel_rfl)
    (of_decide_eq_true (by kernel_rfl)) (by unfold Func.isWrapper; first | (rw [if_pos (by decide +kernel)]; kernel_rfl) | (rw [if_neg (by decide +kernel)]; exact ⟨rfl, rfl⟩))
    (fun os started H enc _ => lifted os started H enc)
theorem proved : Rows.PlaceTextsSaid := over
end placeTexts
end Go.Proofs.YthopfegpddkelaaGreat
