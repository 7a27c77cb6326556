/- Proved: the law UtfStays returns true for every argument and leaves the arguments as they were; the tables of unicode/utf8 tied to the text; no further condition. -/
import Derived.Test.YtgggnkinalmmlaaDoorTM
import Derived.Test.YtgggnkinalmmlaaDoorTN
import Derived.Test.YtgggnkinalmmlaaDoorVcO
import Derived.Test.YtgggnkinalmmlaaDoorCards
import Derived.Test.YtgggnkinalmmlaaDoorTie
import Derived.Deep.DeepHandedRow
import Derived.Lib.LaidTab
set_option linter.unusedVariables false
set_option linter.unusedSimpArgs false
namespace Go.Proofs.YtgggnkinalmmlaaDoor
open Go.ChangeShapes Go.WideShapes Go.ChangeAt Go.RowKit Go.Vc
set_option linter.unusedVariables false
set_option maxRecDepth 100000
namespace utfStays
def pars : List Par := [(32, false, .sl .byte)]
theorem ct : ∀ svs, ArgsSV pars svs → Ct BB 8 svs [] fun sv Φ => sv = .bool true ∧ Φ = [] := by
  intro svs h
  cases h with
  | cons x0 hw0 h =>
  cases h
  obtain ⟨l, rfl⟩ : ∃ z, z = x0 := ⟨_, rfl⟩
  exact (fStays l).ok True.intro
theorem spec (H : Type) (ds : List (DataW H)) (h : ds.length = pars.length) : (Rows.utfStaysSpec.fn H ds).results = [.lit (.bool true)] ∧ (Rows.utfStaysSpec.fn H ds).args = ds ∧ (Rows.utfStaysSpec.fn H ds).vars = [] := by
  match ds, h with
  | [d0], _ => exact ⟨rfl, rfl, rfl⟩
theorem contract (H : Type) (enc : TypeId × Value → H) (W : World) (base : Nat) (args : Array Value) (ds gs : List (DataW H)) (before : List MemPlace)
    (hval : ∀ (j : Nat) t v, Tryd.f8.params[j]? = some t → args[j]? = some v → Value.okWide Tryd.prog W .any base t v)
    (hW : DataW.Whole enc Tryd.prog Tryd.f8.params.toList Rows.utfStaysSpec.vars false W args.toList ds gs before) (hL : laidMetH Tryd.prog Rows.utfStaysRow.laid W) (hsh : W.ShapedOpen Tryd.prog) :
    Calls Tryd.prog 8 args W fun e W' => ∃ v, e = .returned v ∧ Rows.utfStaysSpec.post enc Tryd.prog Tryd.f8 false true false false W args v W' :=
  law_contract2 (B := BB) (P := Tryd.prog) (fn := Tryd.f8) pars (tb := 4) rfl (by kernel_rfl) (by kernel_rfl) (by kernel_rfl) rfl (spec H) (by kernel_rfl) Tryd.underlying4 ct W (base_ok W hL hsh) base args ds gs before hval hW
def lay0 : Obj → Obj
  | .cells _ t frozen => .cells ((Array.range 256).map fun c => Value.int .u8 (Lib.firstT c : Int)) t frozen
  | o => o
def lay1 : Obj → Obj
  | .cells _ t frozen => .cells ((Array.range 32).map fun i => Value.int .u8 (bif i % 2 == 0 then (Lib.accLo (i / 2) : Int) else (Lib.accHi (i / 2) : Int))) t frozen
  | o => o
noncomputable def laidWorld (os : Os) : World :=
  { World.holding Tryd.prog os ⟨#[], #[], []⟩ with heap := ((World.holding Tryd.prog os ⟨#[], #[], []⟩).heap.modify 0 lay0).modify 1 lay1 }
theorem laid_met (os : Os) : laidMet Tryd.prog Rows.utfStaysRow.laid ((laidWorld os).forCall (fun _ _ => 0) ⟨#[], #[.slice none 0 0], []⟩).memory :=
  laidMet_of_run' 8 (by kernel_rfl) (by kernel_rfl)
theorem reads (os : Os) {H : Type} (enc : TypeId × Value → H) : ∃ places, DataW.whole enc Tryd.prog ((laidWorld os).forCall (fun _ _ => 0) ⟨#[], #[.slice none 0 0], []⟩).memory Tryd.f8.params.toList Rows.utfStaysSpec.vars false (#[.slice none 0 0] : Array Value).toList 8 = some ([.nil], [], places) :=
  ⟨[], by kernel_rfl⟩
theorem own : ownKnob Tryd.prog.godebug = none := by kernel_rfl
theorem lifted (os : Os) (started : os.Started) (H : Type) (enc : TypeId × Value → H) (F : Stop.Interp) :
    ReturnsInHanded {} Tryd.checked os 8 .any ((OpenSpec.ofChange Rows.utfStaysSpec).preRow enc Tryd.prog Tryd.f8 Rows.utfStaysRow.domain false Rows.utfStaysRow.laid) (((OpenSpec.ofChange Rows.utfStaysSpec).at F).post enc Tryd.prog Tryd.f8 false true false false) := by
  obtain ⟨places, hx⟩ := reads os enc
  refine returnsInHanded_of_row (C := Tryd.checked) (s := OpenSpec.ofChange Rows.utfStaysSpec) own started (by kernel_rfl) Tryd.func8
    (witness_row_at (enc := enc) (C := Tryd.checked) false (laidWorld os) #[.slice none 0 0] rfl (by kernel_rfl) (by kernel_rfl) (by kernel_rfl)
      (OpenSpec.preRow_of_cond 8 hx (by kernel_rfl) (fun k hk => by cases hk) (by kernel_rfl) (laid_met os))) ?_
  intro W base args ds gs before hval hW _ _ _ hL hsh _
  exact contract H enc W base args ds gs before hval hW hL hsh
theorem said : Rows.UtfStaysSaid :=
  OpenClaim.holds_of_cond 8 Tryd.f8 rfl rfl rfl rfl rfl rfl rfl ⟨rfl, rfl, rfl, rfl, rfl⟩ rfl rfl rfl rfl rfl (by kernel_rfl) Tryd.func8 (by kernel_rfl)
    (of_decide_eq_true (by kernel_rfl)) (by unfold Func.isWrapper; first | (rw [if_pos (by decide +kernel)]; kernel_rfl) | (rw [if_neg (by decide +kernel)]; exact ⟨rfl, rfl⟩))
    (fun os started H enc _ F => by rw [OpenClaim.pre_eq_preRow]; exact lifted os started H enc F)
theorem plain (f : FuncId) (fn : Func) (hf : Tryd.pinned.checked.prog.funcNamed "hoarding/hoardinglaw02.UtfStays" = some f) (hfn : Tryd.pinned.checked.prog.funcs[f]? = some fn) :
    false = Tryd.pinned.checked.prog.looks [] ∧ ∀ (j : Nat) t, fn.params[j]? = some t → Tryd.pinned.checked.prog.wantsStandIn t = false := by
  obtain rfl : f = 8 := Option.some.inj ((show Tryd.prog.funcNamed "hoarding/hoardinglaw02.UtfStays" = some 8 by kernel_rfl).symm.trans hf) |>.symm
  obtain rfl : fn = Tryd.f8 := (Option.some.inj (Tryd.func8.symm.trans hfn)).symm
  refine ⟨by kernel_rfl, fun j t ht => ?_⟩
  rw [Tryd.params8] at ht
  have h := Array.mem_of_getElem? ht
  have hm : t = 32 := by simpa [or_assoc] using h
  subst hm
  exact (show Tryd.prog.wantsStandIn 32 = false by kernel_rfl)
theorem proved : Rows.UtfStaysCardSaid :=
  Claim7.holds_tied_plain_at .later [] _ _ _ _ said (fun _ h => by cases h) (by kernel_rfl) (fun _ h => by cases h) utfStays_row_tie rfl ⟨rfl, rfl⟩ (by kernel_rfl) rfl plain (by kernel_rfl)
end utfStays
end Go.Proofs.YtgggnkinalmmlaaDoor
