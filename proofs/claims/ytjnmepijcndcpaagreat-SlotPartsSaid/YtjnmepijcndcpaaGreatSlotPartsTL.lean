/- Proved: the law SlotParts returns true for every argument and leaves the arguments as they were; no condition. -/
import Derived.Test.YtjnmepijcndcpaaGreatSlotPartsTJ
import Derived.Test.YtjnmepijcndcpaaGreatSlotPartsVK
import Derived.Test.YtjnmepijcndcpaaGreatRows
set_option linter.unusedVariables false
set_option linter.unusedSimpArgs false
set_option maxHeartbeats 8000000
namespace Go.Proofs.YtjnmepijcndcpaaGreat
open Go.ChangeShapes Go.WideShapes Go.ChangeAt Go.RowKit Go.Vc
set_option linter.unusedVariables false
set_option maxRecDepth 100000
namespace slotParts
def pars:List Par:=[(24,true,.sl qAB),(28,true,.pr .str (.pr (.sl qCA) (.pr (.sl .str) (.sl qCA)))),(3,false,qAL)]
theorem ct:∀ svs,ArgsSV pars svs->Ct BB 3 svs [] fun sv Φ=>sv=.bool true/\Φ=[]:=by
  intro svs h;cases h with
  | cons x0 hw0 h=>
  cases h with
  | cons x1 hw1 h=>
  cases h with
  | cons x2 hw2 h=>
  cases h;obtain⟨t,rfl⟩:∃ z,z=x0:=⟨_,rfl⟩;obtain⟨ti,be,ar,af⟩:=x1;obtain⟨i,rfl⟩:∃ z,z=x2:=⟨_,rfl⟩;exact(dSlotParts t ti be ar af i).ok True.intro
theorem spec (H:Type) (ds:List (DataW H)) (h:ds.length=pars.length):(Rows.slotPartsSpec.fn H ds).results=[.lit (.bool true)]/\(Rows.slotPartsSpec.fn H ds).args=ds/\(Rows.slotPartsSpec.fn H ds).vars=[]:=by
  match ds,h with
  | [d0,d1,d2],_=>exact⟨rfl,rfl,rfl⟩
theorem contract (H:Type) (enc:TypeId×Value->H) (W:World) (base:Nat) (args:Array Value) (ds gs:List (DataW H)) (before:List MemPlace)
    (hval:∀ (j:Nat) t v,Tryz.f3.params[j]?=some t->args[j]?=some v->Value.okWide Tryz.prog W .any base t v)
    (hW:DataW.Whole enc Tryz.prog Tryz.f3.params.toList Rows.slotPartsSpec.vars false W args.toList ds gs before) (hsh:W.ShapedOpen Tryz.prog):
    Calls Tryz.prog 3 args W fun e W'=>∃ v,e=.returned v/\Rows.slotPartsSpec.post enc Tryz.prog Tryz.f3 false true false false W args v W':=
  qSO (B:=BB) (P:=Tryz.prog) (fn:=Tryz.f3) pars (tb:=4) rfl (by kernel_rfl) (by kernel_rfl) (by kernel_rfl) rfl (spec H) (by kernel_rfl) Tryz.underlying4 qmM ct W base args ds gs before hval hW hsh
theorem lifted (os:Os) (started:os.Started) (H:Type) (enc:TypeId×Value->H):
    ReturnsInHanded {} Tryz.checked os 3 .any (Rows.slotPartsSpec.pre6 enc Tryz.prog Tryz.f3 Rows.slotPartsRow.domain false) (Rows.slotPartsSpec.post enc Tryz.prog Tryz.f3 false true false false):=by
  refine returnsInHanded_of_change_shaped (C:=Tryz.checked) (by kernel_rfl) started (by kernel_rfl) Tryz.func3
    (ChangeSpec.witness6 (enc:=enc) (C:=Tryz.checked) false ⟨#[], #[.agg #[.slice none 0 0],.agg #[.string ⟨#[]⟩,.slice none 0 0,.slice none 0 0,.slice none 0 0],.int .i64 0],[]⟩ 8 (by kernel_rfl) (by kernel_rfl) (by kernel_rfl) (by kernel_rfl)) ?_
  intro W base args ds gs before hval hW _ _ hsh _;exact contract H enc W base args ds gs before hval hW hsh
theorem closed:joinedFacts Tryz.prog 3 Tryz.f3 Rows.slotPartsSpec Rows.slotPartsRow=true:=by
  unfold joinedFacts;simp only[Bool.and_eq_true]
  repeat'(refine And.intro ?_ ?_)
  all_goals(as_aux_lemma=>kernel_rfl)
theorem over:Rows.slotPartsRow.holds Tryz.pinned (OpenSpec.ofChange Rows.slotPartsSpec):=
  OpenClaim.holds_of_wide 3 Tryz.f3 rfl rfl rfl rfl rfl rfl rfl ⟨rfl,rfl,rfl,rfl,rfl⟩ rfl rfl rfl rfl rfl (by kernel_rfl) Tryz.func3 closed
    (of_decide_eq_true (by kernel_rfl)) (by unfold Func.isWrapper;first|(rw[if_pos (by decide +kernel)];kernel_rfl)|(rw[if_neg (by decide +kernel)];exact⟨rfl,rfl⟩))
    (fun os started H enc _=>lifted os started H enc)
theorem proved:Rows.SlotPartsSaid:=over
end slotParts
end Go.Proofs.YtjnmepijcndcpaaGreat
