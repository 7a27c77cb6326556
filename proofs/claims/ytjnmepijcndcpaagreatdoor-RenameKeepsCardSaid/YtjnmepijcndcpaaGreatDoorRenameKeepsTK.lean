/- Proved: the law RenameKeeps returns true for every argument and leaves the arguments as they were; the tables of unicode/utf8 tied to the text; no further condition. -/
import Derived.Test.YtjnmepijcndcpaaGreatDoorRenameKeepsTI
import Derived.Test.YtjnmepijcndcpaaGreatDoorRenameKeepsVJ
import Derived.Test.YtjnmepijcndcpaaGreatDoorCards
import Derived.Test.YtjnmepijcndcpaaGreatDoorTie
import Derived.Deep.DeepHandedRow
import Derived.Lib.LaidTab
set_option linter.unusedVariables false
set_option linter.unusedSimpArgs false
set_option maxHeartbeats 8000000
namespace Go.Proofs.YtjnmepijcndcpaaGreatDoor
open Go.ChangeShapes Go.WideShapes Go.ChangeAt Go.RowKit Go.Vc
set_option linter.unusedVariables false
set_option maxRecDepth 100000
namespace renameKeeps
def pars : List Par := [(9,false,.str),(24,true,.sl qAB)]
theorem ct : ∀ svs,ArgsSV pars svs → Ct BB 3 svs [] fun sv Φ => sv = .bool true ∧ Φ = [] := by
  intro svs h
  cases h with
  | cons x0 hw0 h =>
  cases h with
  | cons x1 hw1 h =>
  cases h
  obtain ⟨p,rfl⟩ : ∃ z,z = x0 := ⟨_,rfl⟩
  obtain ⟨t,rfl⟩ : ∃ z,z = x1 := ⟨_,rfl⟩
  exact (kKeeps p t).ok True.intro
theorem spec (H : Type) (ds : List (DataW H)) (h : ds.length = pars.length) : (Rows.renameKeepsSpec.fn H ds).results = [.lit (.bool true)] ∧ (Rows.renameKeepsSpec.fn H ds).args = ds ∧ (Rows.renameKeepsSpec.fn H ds).vars = [] := by
  match ds,h with
  | [d0,d1],_ => exact ⟨rfl,rfl,rfl⟩
theorem contract (H : Type) (enc : TypeId × Value → H) (W : World) (base : Nat) (args : Array Value) (ds gs : List (DataW H)) (before : List MemPlace)
    (hval : ∀ (j : Nat) t v,Tryz.f3.params[j]? = some t → args[j]? = some v → Value.okWide Tryz.prog W .any base t v)
    (hW : DataW.Whole enc Tryz.prog Tryz.f3.params.toList Rows.renameKeepsSpec.vars false W args.toList ds gs before) (hL : laidMetH Tryz.prog Rows.renameKeepsRow.laid W) (hsh : W.ShapedOpen Tryz.prog) :
    Calls Tryz.prog 3 args W fun e W' => ∃ v,e = .returned v ∧ Rows.renameKeepsSpec.post enc Tryz.prog Tryz.f3 false true false false W args v W' :=
  qN8 (B := BB) (P := Tryz.prog) (fn := Tryz.f3) pars (tb := 4) rfl (by kernel_rfl) (by kernel_rfl) (by kernel_rfl) rfl (spec H) (by kernel_rfl) Tryz.underlying4 ct W (qhN W hL hsh) base args ds gs before hval hW
def lay0 : Obj → Obj
  | .cells _ t frozen => .cells ((Array.range 256).map fun c => Value.int .u8 (Lib.firstT c : Int)) t frozen
  | o => o
def lay1 : Obj → Obj
  | .cells _ t frozen => .cells ((Array.range 32).map fun i => Value.int .u8 (bif i % 2 == 0 then (Lib.accLo (i / 2) : Int) else (Lib.accHi (i / 2) : Int))) t frozen
  | o => o
noncomputable def laidWorld (os : Os) : World :=
  { World.holding Tryz.prog os ⟨#[], #[],[]⟩ with heap := ((World.holding Tryz.prog os ⟨#[], #[],[]⟩).heap.modify 0 lay0).modify 1 lay1 }
theorem laid_met (os : Os) : laidMet Tryz.prog Rows.renameKeepsRow.laid ((laidWorld os).forCall (fun _ _ => 0) ⟨#[], #[.string ⟨#[]⟩,.agg #[.slice none 0 0]],[]⟩).memory :=
  laidMet_of_run' 8 (by kernel_rfl) (by kernel_rfl)
theorem reads (os : Os) {H : Type} (enc : TypeId × Value → H) : ∃ places,DataW.whole enc Tryz.prog ((laidWorld os).forCall (fun _ _ => 0) ⟨#[], #[.string ⟨#[]⟩,.agg #[.slice none 0 0]],[]⟩).memory Tryz.f3.params.toList Rows.renameKeepsSpec.vars false (#[.string ⟨#[]⟩,.agg #[.slice none 0 0]] : Array Value).toList 8 = some ([.lit (.string []),.agg [.nil]],[],places) :=
  ⟨[],by kernel_rfl⟩
theorem own : ownKnob Tryz.prog.godebug = none := by kernel_rfl
theorem lifted (os : Os) (started : os.Started) (H : Type) (enc : TypeId × Value → H) (F : Stop.Interp) :
    ReturnsInHanded {} Tryz.checked os 3 .any ((OpenSpec.ofChange Rows.renameKeepsSpec).preRow enc Tryz.prog Tryz.f3 Rows.renameKeepsRow.domain false Rows.renameKeepsRow.laid) (((OpenSpec.ofChange Rows.renameKeepsSpec).at F).post enc Tryz.prog Tryz.f3 false true false false) := by
  obtain ⟨places,hx⟩ := reads os enc
  refine returnsInHanded_of_row (C := Tryz.checked) (s := OpenSpec.ofChange Rows.renameKeepsSpec) own started (by kernel_rfl) Tryz.func3
    (witness_row_at (enc := enc) (C := Tryz.checked) false (laidWorld os) #[.string ⟨#[]⟩,.agg #[.slice none 0 0]] rfl (by kernel_rfl) (by kernel_rfl) (by kernel_rfl)
      (OpenSpec.preRow_of_cond 8 hx (by kernel_rfl) (fun k hk => by cases hk) (by kernel_rfl) (laid_met os))) ?_
  intro W base args ds gs before hval hW _ _ _ hL hsh _
  exact contract H enc W base args ds gs before hval hW hL hsh
theorem closed : joinedFacts Tryz.prog 3 Tryz.f3 Rows.renameKeepsSpec Rows.renameKeepsRow = true := by
  unfold joinedFacts
  simp only [Bool.and_eq_true]
  repeat' (refine And.intro ?_ ?_)
  all_goals (as_aux_lemma => kernel_rfl)
theorem said : Rows.RenameKeepsSaid :=
  OpenClaim.holds_of_cond 3 Tryz.f3 rfl rfl rfl rfl rfl rfl rfl ⟨rfl,rfl,rfl,rfl,rfl⟩ rfl rfl rfl rfl rfl (by kernel_rfl) Tryz.func3 closed
    (of_decide_eq_true (by kernel_rfl)) (by unfold Func.isWrapper;first | (rw [if_pos (by decide +kernel)];kernel_rfl) | (rw [if_neg (by decide +kernel)];exact ⟨rfl,rfl⟩))
    (fun os started H enc _ F => by rw [OpenClaim.pre_eq_preRow];exact lifted os started H enc F)
theorem plain (f : FuncId) (fn : Func) (hf : Tryz.pinned.checked.prog.funcNamed "hoarding/hoardinglaw37.RenameKeeps" = some f) (hfn : Tryz.pinned.checked.prog.funcs[f]? = some fn) :
    false = Tryz.pinned.checked.prog.looks [] ∧ ∀ (j : Nat) t,fn.params[j]? = some t → Tryz.pinned.checked.prog.wantsStandIn t = false := by
  obtain rfl : f = 3 := Option.some.inj ((show Tryz.prog.funcNamed "hoarding/hoardinglaw37.RenameKeeps" = some 3 by kernel_rfl).symm.trans hf) |>.symm
  obtain rfl : fn = Tryz.f3 := (Option.some.inj (Tryz.func3.symm.trans hfn)).symm
  refine ⟨by kernel_rfl,fun j t ht => ?_⟩
  rw [Tryz.params3] at ht
  have h := Array.mem_of_getElem? ht
  have hm : t = 9 ∨ t = 24 := by simpa [or_assoc] using h
  rcases hm with rfl | rfl
  · exact (show Tryz.prog.wantsStandIn 9 = false by kernel_rfl)
  · exact (show Tryz.prog.wantsStandIn 24 = false by kernel_rfl)
theorem proved : Rows.RenameKeepsCardSaid :=
  Claim7.holds_tied_plain_at .later [] _ _ _ _ said (fun _ h => by cases h) (by kernel_rfl) (fun _ h => by cases h) renameKeeps_row_tie rfl ⟨rfl,rfl⟩ (by kernel_rfl) rfl plain (by kernel_rfl)
end renameKeeps
end Go.Proofs.YtjnmepijcndcpaaGreatDoor
