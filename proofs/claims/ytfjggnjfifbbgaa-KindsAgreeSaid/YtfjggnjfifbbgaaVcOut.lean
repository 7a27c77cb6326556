/- A part of the proof: lemmas and walks that the last text of the claim joins; no condition. -/
import Derived.Test.YtfjggnjfifbbgaaVcS12
import Derived.ChangeSame
import Derived.WalkKit
import Derived.ProofKit
import Derived.OpenShut
import Derived.HandedShaped
import Derived.JoinedOf
import Derived.JoinedCond
namespace Go.Vc
open Go.ChangeShapes Go.WideShapes Go.ChangeAt Go.RowKit
set_option autoImplicit false
set_option linter.unusedVariables false

/-- What a call that owns nothing leaves. -/
structure Left0 (W w' : World) : Prop where
  os : w'.os = W.os
  output : w'.output = W.output
  block : ∀ b, b < W.heap.size → w'.heap[b]? = W.heap[b]?

theorem Left0.frame {W w' : World} (h : Left0 W w') (may : MemPlace → Prop) : W.keptBut w' may := by
  refine ⟨h.os, h.output, fun i hi => ?_⟩
  rw [h.block i hi]
  split <;> simp_all

theorem post_of_left {H : Type} {enc : TypeId × Value → H} {P : Program} {f : Func} {s : ChangeSpec} {apart fresh handsOn again : Bool} {W W' : World} {args : Array Value} {v : Value} {ds gs : List (DataW H)} {before pa pv : List MemPlace}
    (hW : DataW.Whole enc P f.params.toList s.vars apart W args.toList ds gs before)
    (hres : ∀ (b : Nat) (sp : Nat → Bool) (hd : Bool), DataW.TrodAll enc P W' b sp hd f.resultTypes.toList (v.resultList f.resultTypes.size) (s.fn H (ds ++ gs)).results [])
    (hargs : ∀ sp : Nat → Bool, (∀ p ∈ before, sp p.block = true) → DataW.TrodAll enc P W' 0 sp true f.params.toList args.toList (s.fn H (ds ++ gs)).args pa)
    (hvars : ∀ sp : Nat → Bool, (∀ p ∈ before, sp p.block = true) → DataW.TrodVars enc P W' sp s.vars (s.fn H (ds ++ gs)).vars pv)
    (hps : before = pa ++ pv) (hk : Left0 W W')
    (hok : ∀ (j : Nat) (t : TypeId) (r : Value), f.resultTypes[j]? = some t → (v.resultList f.resultTypes.size)[j]? = some r → Value.okWide P W' .any 0 t r) :
    s.post enc P f apart fresh handsOn again W args v W' := by
  have hlt := hW.lt
  have hold : ∀ p ∈ before, (fun b => decide (b < W.heap.size)) p.block = true := fun p hp => by simpa using hlt p hp
  refine ⟨ds, gs, before, [], pa, pv, hW, hres _ _ _, hargs _ hold, hvars _ hold, World.keptBut_mono (fun p hp => ⟨hp, ?_⟩) (hk.frame _), fun _ => ?_⟩
  · rw [hps, List.mem_append] at hp
    exact Or.inr hp
  · obtain ⟨_, _, _, _, _, hz, hn⟩ := hW
    refine ⟨hok, _, _, ([] ++ pa) ++ pv, ⟨[] ++ pa, pv, trodAll_append (hargs _ (fun _ _ => rfl)) (hres _ _ _), hvars _ (fun _ _ => rfl), rfl, ?_, ?_⟩, ?_⟩
    · intro b off hp
      have hb : MemPlace.cell b off ∈ before := by rw [hps]; simpa using hp
      have h0 := hz b off hb
      have h1 := hlt _ hb
      have e : W'.heap[b]? = W.heap[b]? := hk.block b h1
      simp only [World.frozen?] at h0 ⊢
      rw [e]; exact h0
    · intro ha
      have := hn ha
      rw [hps] at this
      simpa using this
    · intro p hp _
      rw [hps]
      simpa using hp

/-- A contract without chunks, at a row's own world. -/
theorem Ct.run {B : Base} {f : FuncId} {args : List SV} {vs : List Value} {W : World} (hc : Ct B f args [] fun sv Φ => sv = .bool true ∧ Φ = [])
    (hG : B.G fun b => W.heap[b]?) (hl : RelL (fun b => W.heap[b]?) β0 args vs) :
    Calls B.P f vs.toArray W fun e w' => e = .returned (.bool true) ∧ Left0 W w' := by
  refine (hc (fun b => W.heap[b]?) β0 W vs hG ⟨fun _ _ h => h, fun _ _ h => (by cases h), fun _ _ _ h => (by cases h), fun _ _ _ _ _ h => (by cases h)⟩ hl).mono fun e w' hh => ?_
  obtain ⟨v, sv, r', β', Φ', he, ⟨rfl, rfl⟩, hr, m, hle, hid⟩ := hh
  cases hr
  refine ⟨he, hid.os, hid.output, fun b hb => ?_⟩
  have e : W.heap[b]? = some W.heap[b] := by simp [hb]
  rw [e]
  exact m.vis b _ (hle b _ e)
end Go.Vc
