/- Proved: the law ForeignSpells returns true for every argument and leaves the arguments as they were; no condition. -/
import Derived.Test.YtgihgphehpjjfaaForeignSpellsTG
import Derived.Test.YtgihgphehpjjfaaForeignSpellsVH
import Derived.Test.YtgihgphehpjjfaaRows
set_option linter.unusedVariables false
set_option linter.unusedSimpArgs false
set_option maxHeartbeats 8000000
namespace Go.Proofs.Ytgihgphehpjjfaa
open Go.ChangeShapes Go.WideShapes Go.ChangeAt Go.RowKit Go.Vc
set_option linter.unusedVariables false
set_option maxRecDepth 100000
namespace foreignSpells
def pars : List Par := [(59, true, tokTy), (3, false, intTy)]
theorem ct : ∀ svs, ArgsSV pars svs → Ct BB 8 svs [] fun sv Φ => sv = .bool true ∧ Φ = [] := by
  intro svs h
  cases h with
  | cons x0 hw0 h =>
  cases h with
  | cons x1 hw1 h =>
  cases h
  obtain ⟨k, nm, at_, se, da⟩ := x0
  obtain ⟨sp, rfl⟩ : ∃ z, z = x1 := ⟨_, rfl⟩
  exact (fSpells k nm at_ se da sp).ok True.intro
theorem spec (H : Type) (ds : List (DataW H)) (h : ds.length = pars.length) : (Rows.foreignSpellsSpec.fn H ds).results = [.lit (.bool true)] ∧ (Rows.foreignSpellsSpec.fn H ds).args = ds ∧ (Rows.foreignSpellsSpec.fn H ds).vars = [] := by
  match ds, h with
  | [d0, d1], _ => exact ⟨rfl, rfl, rfl⟩
theorem contract (H : Type) (enc : TypeId × Value → H) (W : World) (base : Nat) (args : Array Value) (ds gs : List (DataW H)) (before : List MemPlace)
    (hval : ∀ (j : Nat) t v, Try.f8.params[j]? = some t → args[j]? = some v → Value.okWide Try.prog W .any base t v)
    (hW : DataW.Whole enc Try.prog Try.f8.params.toList Rows.foreignSpellsSpec.vars false W args.toList ds gs before) (hsh : W.ShapedOpen Try.prog) :
    Calls Try.prog 8 args W fun e W' => ∃ v, e = .returned v ∧ Rows.foreignSpellsSpec.post enc Try.prog Try.f8 false true false false W args v W' :=
  law_contract (B := BB) (P := Try.prog) (fn := Try.f8) pars (tb := 4) rfl (by kernel_rfl) (by kernel_rfl) (by kernel_rfl) rfl (spec H) (by kernel_rfl) Try.underlying4 base_ok ct W base args ds gs before hval hW hsh
theorem lifted (os : Os) (started : os.Started) (H : Type) (enc : TypeId × Value → H) :
    ReturnsInHanded {} Try.checked os 8 .any (Rows.foreignSpellsSpec.pre6 enc Try.prog Try.f8 Rows.foreignSpellsRow.domain false) (Rows.foreignSpellsSpec.post enc Try.prog Try.f8 false true false false) := by
  refine returnsInHanded_of_change_shaped (C := Try.checked) (by kernel_rfl) started (by kernel_rfl) Try.func8
    (ChangeSpec.witness6 (enc := enc) (C := Try.checked) false ⟨#[], #[.agg #[.int .i64 0, .string ⟨#[]⟩, .slice none 0 0, .bool false, .string ⟨#[]⟩], .int .i64 0], []⟩ 8 (by kernel_rfl) (by kernel_rfl) (by kernel_rfl) (by kernel_rfl)) ?_
  intro W base args ds gs before hval hW _ _ hsh _
  exact contract H enc W base args ds gs before hval hW hsh
theorem over : Rows.foreignSpellsRow.holds Try.pinned (OpenSpec.ofChange Rows.foreignSpellsSpec) :=
  OpenClaim.holds_of_wide 8 Try.f8 rfl rfl rfl rfl rfl rfl rfl ⟨rfl, rfl, rfl, rfl, rfl⟩ rfl rfl rfl rfl rfl (by kernel_rfl) Try.func8 (by kernel_rfl)
    (of_decide_eq_true (by kernel_rfl)) (by unfold Func.isWrapper; first | (rw [if_pos (by decide +kernel)]; kernel_rfl) | (rw [if_neg (by decide +kernel)]; exact ⟨rfl, rfl⟩))
    (fun os started H enc _ => lifted os started H enc)
theorem proved : Rows.ForeignSpellsSaid := over
end foreignSpells
end Go.Proofs.Ytgihgphehpjjfaa
