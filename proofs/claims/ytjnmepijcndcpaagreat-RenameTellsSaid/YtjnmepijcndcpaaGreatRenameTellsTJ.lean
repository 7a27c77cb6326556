/- Proved: the law RenameTells returns true for every argument and leaves the arguments as they were; no condition. -/
import Derived.Test.YtjnmepijcndcpaaGreatRenameTellsTH
import Derived.Test.YtjnmepijcndcpaaGreatRenameTellsVI
import Derived.Test.YtjnmepijcndcpaaGreatRows
set_option linter.unusedVariables false
set_option linter.unusedSimpArgs false
set_option maxHeartbeats 8000000
namespace Go.Proofs.YtjnmepijcndcpaaGreat
open Go.ChangeShapes Go.WideShapes Go.ChangeAt Go.RowKit Go.Vc
set_option linter.unusedVariables false
set_option maxRecDepth 100000
namespace renameTells
def pars : List Par := [(9,false,.str),(24,true,.sl jKA),(49,true,jKA),(54,true,jKP),(3,false,jKG),(3,false,jKG)]
theorem ct : ∀ svs,ArgsSV pars svs → Ct BB 8 svs [] fun sv Φ => sv = .bool true ∧ Φ = [] := by
  intro svs h
  cases h with
  | cons x0 hw0 h =>
  cases h with
  | cons x1 hw1 h =>
  cases h with
  | cons x2 hw2 h =>
  cases h with
  | cons x3 hw3 h =>
  cases h with
  | cons x4 hw4 h =>
  cases h with
  | cons x5 hw5 h =>
  cases h
  obtain ⟨p,rfl⟩ : ∃ z,z = x0 := ⟨_,rfl⟩
  obtain ⟨t,rfl⟩ : ∃ z,z = x1 := ⟨_,rfl⟩
  obtain ⟨k,s,nn,at_,d,up,kids⟩ := x2
  obtain ⟨nm,v⟩ := x3
  obtain ⟨b,rfl⟩ : ∃ z,z = x4 := ⟨_,rfl⟩
  obtain ⟨c,rfl⟩ : ∃ z,z = x5 := ⟨_,rfl⟩
  exact (eTells p t k s nn at_ d up kids nm v b c).ok True.intro
theorem spec (H : Type) (ds : List (DataW H)) (h : ds.length = pars.length) : (Rows.renameTellsSpec.fn H ds).results = [.lit (.bool true)] ∧ (Rows.renameTellsSpec.fn H ds).args = ds ∧ (Rows.renameTellsSpec.fn H ds).vars = [] := by
  match ds,h with
  | [d0,d1,d2,d3,d4,d5],_ => exact ⟨rfl,rfl,rfl⟩
theorem contract (H : Type) (enc : TypeId × Value → H) (W : World) (base : Nat) (args : Array Value) (ds gs : List (DataW H)) (before : List MemPlace)
    (hval : ∀ (j : Nat) t v,Tryz.f8.params[j]? = some t → args[j]? = some v → Value.okWide Tryz.prog W .any base t v)
    (hW : DataW.Whole enc Tryz.prog Tryz.f8.params.toList Rows.renameTellsSpec.vars false W args.toList ds gs before) (hsh : W.ShapedOpen Tryz.prog) :
    Calls Tryz.prog 8 args W fun e W' => ∃ v,e = .returned v ∧ Rows.renameTellsSpec.post enc Tryz.prog Tryz.f8 false true false false W args v W' :=
  jZB (B := BB) (P := Tryz.prog) (fn := Tryz.f8) pars (tb := 4) rfl (by kernel_rfl) (by kernel_rfl) (by kernel_rfl) rfl (spec H) (by kernel_rfl) Tryz.underlying4 joM ct W base args ds gs before hval hW hsh
theorem lifted (os : Os) (started : os.Started) (H : Type) (enc : TypeId × Value → H) :
    ReturnsInHanded {} Tryz.checked os 8 .any (Rows.renameTellsSpec.pre6 enc Tryz.prog Tryz.f8 Rows.renameTellsRow.domain false) (Rows.renameTellsSpec.post enc Tryz.prog Tryz.f8 false true false false) := by
  refine returnsInHanded_of_change_shaped (C := Tryz.checked) (by kernel_rfl) started (by kernel_rfl) Tryz.func8
    (ChangeSpec.witness6 (enc := enc) (C := Tryz.checked) false ⟨#[], #[.string ⟨#[]⟩,.agg #[.slice none 0 0],.agg #[.int .i64 0,.int .i64 0,.string ⟨#[]⟩,.slice none 0 0,.string ⟨#[]⟩,.int .i64 0,.slice none 0 0],.agg #[.string ⟨#[]⟩,.string ⟨#[]⟩],.int .i64 0,.int .i64 0],[]⟩ 8 (by kernel_rfl) (by kernel_rfl) (by kernel_rfl) (by kernel_rfl)) ?_
  intro W base args ds gs before hval hW _ _ hsh _
  exact contract H enc W base args ds gs before hval hW hsh
theorem closed : joinedFacts Tryz.prog 8 Tryz.f8 Rows.renameTellsSpec Rows.renameTellsRow = true := by
  unfold joinedFacts
  simp only [Bool.and_eq_true]
  repeat' (refine And.intro ?_ ?_)
  all_goals (as_aux_lemma => kernel_rfl)
theorem over : Rows.renameTellsRow.holds Tryz.pinned (OpenSpec.ofChange Rows.renameTellsSpec) :=
  OpenClaim.holds_of_wide 8 Tryz.f8 rfl rfl rfl rfl rfl rfl rfl ⟨rfl,rfl,rfl,rfl,rfl⟩ rfl rfl rfl rfl rfl (by kernel_rfl) Tryz.func8 closed
    (of_decide_eq_true (by kernel_rfl)) (by unfold Func.isWrapper;first | (rw [if_pos (by decide +kernel)];kernel_rfl) | (rw [if_neg (by decide +kernel)];exact ⟨rfl,rfl⟩))
    (fun os started H enc _ => lifted os started H enc)
theorem proved : Rows.RenameTellsSaid := over
end renameTells
end Go.Proofs.YtjnmepijcndcpaaGreat
