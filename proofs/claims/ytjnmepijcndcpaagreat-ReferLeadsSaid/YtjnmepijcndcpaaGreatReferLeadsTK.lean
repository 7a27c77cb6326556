/- Proved: the law ReferLeads returns true for every argument and leaves the arguments as they were; no condition. -/
import Derived.Test.YtjnmepijcndcpaaGreatReferLeadsTI
import Derived.Test.YtjnmepijcndcpaaGreatReferLeadsVJ
import Derived.Test.YtjnmepijcndcpaaGreatRows
set_option linter.unusedVariables false
set_option linter.unusedSimpArgs false
set_option maxHeartbeats 8000000
namespace Go.Proofs.YtjnmepijcndcpaaGreat
open Go.ChangeShapes Go.WideShapes Go.ChangeAt Go.RowKit Go.Vc
set_option linter.unusedVariables false
set_option maxRecDepth 100000
namespace referLeads
def pars : List Par := [(24,true,.sl qAC)]
theorem ct : ∀ svs,ArgsSV pars svs → Ct BB 10 svs [] fun sv Φ => sv = .bool true ∧ Φ = [] := by
  intro svs h
  cases h with
  | cons x0 hw0 h =>
  cases h
  obtain ⟨t,rfl⟩ : ∃ z,z = x0 := ⟨_,rfl⟩
  exact (rLeads t).ok True.intro
theorem spec (H : Type) (ds : List (DataW H)) (h : ds.length = pars.length) : (Rows.referLeadsSpec.fn H ds).results = [.lit (.bool true)] ∧ (Rows.referLeadsSpec.fn H ds).args = ds ∧ (Rows.referLeadsSpec.fn H ds).vars = [] := by
  match ds,h with
  | [d0],_ => exact ⟨rfl,rfl,rfl⟩
theorem contract (H : Type) (enc : TypeId × Value → H) (W : World) (base : Nat) (args : Array Value) (ds gs : List (DataW H)) (before : List MemPlace)
    (hval : ∀ (j : Nat) t v,Tryz.f10.params[j]? = some t → args[j]? = some v → Value.okWide Tryz.prog W .any base t v)
    (hW : DataW.Whole enc Tryz.prog Tryz.f10.params.toList Rows.referLeadsSpec.vars false W args.toList ds gs before) (hsh : W.ShapedOpen Tryz.prog) :
    Calls Tryz.prog 10 args W fun e W' => ∃ v,e = .returned v ∧ Rows.referLeadsSpec.post enc Tryz.prog Tryz.f10 false true false false W args v W' :=
  qOO (B := BB) (P := Tryz.prog) (fn := Tryz.f10) pars (tb := 4) rfl (by kernel_rfl) (by kernel_rfl) (by kernel_rfl) rfl (spec H) (by kernel_rfl) Tryz.underlying4 qdW ct W base args ds gs before hval hW hsh
theorem lifted (os : Os) (started : os.Started) (H : Type) (enc : TypeId × Value → H) :
    ReturnsInHanded {} Tryz.checked os 10 .any (Rows.referLeadsSpec.pre6 enc Tryz.prog Tryz.f10 Rows.referLeadsRow.domain false) (Rows.referLeadsSpec.post enc Tryz.prog Tryz.f10 false true false false) := by
  refine returnsInHanded_of_change_shaped (C := Tryz.checked) (by kernel_rfl) started (by kernel_rfl) Tryz.func10
    (ChangeSpec.witness6 (enc := enc) (C := Tryz.checked) false ⟨#[], #[.agg #[.slice none 0 0]],[]⟩ 8 (by kernel_rfl) (by kernel_rfl) (by kernel_rfl) (by kernel_rfl)) ?_
  intro W base args ds gs before hval hW _ _ hsh _
  exact contract H enc W base args ds gs before hval hW hsh
theorem closed : joinedFacts Tryz.prog 10 Tryz.f10 Rows.referLeadsSpec Rows.referLeadsRow = true := by
  unfold joinedFacts
  simp only [Bool.and_eq_true]
  repeat' (refine And.intro ?_ ?_)
  all_goals (as_aux_lemma => kernel_rfl)
theorem over : Rows.referLeadsRow.holds Tryz.pinned (OpenSpec.ofChange Rows.referLeadsSpec) :=
  OpenClaim.holds_of_wide 10 Tryz.f10 rfl rfl rfl rfl rfl rfl rfl ⟨rfl,rfl,rfl,rfl,rfl⟩ rfl rfl rfl rfl rfl (by kernel_rfl) Tryz.func10 closed
    (of_decide_eq_true (by kernel_rfl)) (by unfold Func.isWrapper;first | (rw [if_pos (by decide +kernel)];kernel_rfl) | (rw [if_neg (by decide +kernel)];exact ⟨rfl,rfl⟩))
    (fun os started H enc _ => lifted os started H enc)
theorem proved : Rows.ReferLeadsSaid := over
end referLeads
end Go.Proofs.YtjnmepijcndcpaaGreat
