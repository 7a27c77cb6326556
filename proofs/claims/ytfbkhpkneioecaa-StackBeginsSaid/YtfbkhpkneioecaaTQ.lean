/- Proved: the law StackBegins returns true for every argument and leaves the arguments as they were; no condition. -/
import Derived.Test.YtfbkhpkneioecaaTO
import Derived.Test.YtfbkhpkneioecaaVcP
import Derived.Test.YtfbkhpkneioecaaRows
set_option linter.unusedVariables false
set_option linter.unusedSimpArgs false
namespace Go.Proofs.Ytfbkhpkneioecaa
open Go.ChangeShapes Go.WideShapes Go.ChangeAt Go.RowKit Go.Vc
set_option linter.unusedVariables false
set_option maxRecDepth 100000
namespace stackBegins
def pars : List Par := [(29, true, .sl nodeTy), (32, false, .sl intTy), (9, false, .str), (3, false, intTy)]
theorem ct : ∀ svs, ArgsSV pars svs → Ct BB 10 svs [] fun sv Φ => sv = .bool true ∧ Φ = [] := by
  intro svs h
  cases h with
  | cons x0 hw0 h =>
  cases h with
  | cons x1 hw1 h =>
  cases h with
  | cons x2 hw2 h =>
  cases h with
  | cons x3 hw3 h =>
  cases h
  obtain ⟨t, rfl⟩ : ∃ z, z = x0 := ⟨_, rfl⟩
  obtain ⟨l, rfl⟩ : ∃ z, z = x1 := ⟨_, rfl⟩
  obtain ⟨nm, rfl⟩ : ∃ z, z = x2 := ⟨_, rfl⟩
  obtain ⟨sc, rfl⟩ : ∃ z, z = x3 := ⟨_, rfl⟩
  exact (s10 t l nm sc).ok True.intro
theorem spec (H : Type) (ds : List (DataW H)) (h : ds.length = pars.length) : (Rows.stackBeginsSpec.fn H ds).results = [.lit (.bool true)] ∧ (Rows.stackBeginsSpec.fn H ds).args = ds ∧ (Rows.stackBeginsSpec.fn H ds).vars = [] := by
  match ds, h with
  | [d0, d1, d2, d3], _ => exact ⟨rfl, rfl, rfl⟩
theorem contract (H : Type) (enc : TypeId × Value → H) (W : World) (base : Nat) (args : Array Value) (ds gs : List (DataW H)) (before : List MemPlace)
    (hval : ∀ (j : Nat) t v, Try.f10.params[j]? = some t → args[j]? = some v → Value.okWide Try.prog W .any base t v)
    (hW : DataW.Whole enc Try.prog Try.f10.params.toList Rows.stackBeginsSpec.vars false W args.toList ds gs before) (hsh : W.ShapedOpen Try.prog) :
    Calls Try.prog 10 args W fun e W' => ∃ v, e = .returned v ∧ Rows.stackBeginsSpec.post enc Try.prog Try.f10 false true false false W args v W' :=
  law_contract (B := BB) (P := Try.prog) (fn := Try.f10) pars (tb := 4) rfl (by kernel_rfl) (by kernel_rfl) (by kernel_rfl) rfl (spec H) (by kernel_rfl) Try.underlying4 base_ok ct W base args ds gs before hval hW hsh
theorem lifted (os : Os) (started : os.Started) (H : Type) (enc : TypeId × Value → H) :
    ReturnsInHanded {} Try.checked os 10 .any (Rows.stackBeginsSpec.pre6 enc Try.prog Try.f10 Rows.stackBeginsRow.domain false) (Rows.stackBeginsSpec.post enc Try.prog Try.f10 false true false false) := by
  refine returnsInHanded_of_change_shaped (C := Try.checked) (by kernel_rfl) started (by kernel_rfl) Try.func10
    (ChangeSpec.witness6 (enc := enc) (C := Try.checked) false ⟨#[], #[.agg #[.slice none 0 0], .slice none 0 0, .string ⟨#[]⟩, .int .i64 0], []⟩ 8 (by kernel_rfl) (by kernel_rfl) (by kernel_rfl) (by kernel_rfl)) ?_
  intro W base args ds gs before hval hW _ _ hsh _
  exact contract H enc W base args ds gs before hval hW hsh
theorem over : Rows.stackBeginsRow.holds Try.pinned (OpenSpec.ofChange Rows.stackBeginsSpec) :=
  OpenClaim.holds_of_wide 10 Try.f10 rfl rfl rfl rfl rfl rfl rfl ⟨rfl, rfl, rfl, rfl, rfl⟩ rfl rfl rfl rfl rfl (by kernel_rfl) Try.func10 (by kernel_rfl)
    (of_decide_eq_true (by kernel_rfl)) (by unfold Func.isWrapper; first | (rw [if_pos (by decide +kernel)]; kernel_rfl) | (rw [if_neg (by decide +kernel)]; exact ⟨rfl, rfl⟩))
    (fun os started H enc _ => lifted os started H enc)
theorem proved : Rows.StackBeginsSaid := over
end stackBegins
end Go.Proofs.Ytfbkhpkneioecaa
