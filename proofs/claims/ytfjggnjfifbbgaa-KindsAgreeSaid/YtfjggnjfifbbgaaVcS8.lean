/- A part of the proof: lemmas and walks that the last text of the claim joins; no condition. -/
import Derived.Test.YtfjggnjfifbbgaaVcS7
namespace Go.Vc
set_option autoImplicit false
set_option linter.unusedVariables false

/-- What is known of an operation: one value, in every world that is near; or a call. -/
inductive OpOk (B : Base) (q : Bool) (r : Mem) (β : Bind) (Φ : Phi) (w0 : World) (a : Act) (o : Oper) (sv : SV) : Prop
  | val (v : Value) (hr : Rel r β sv v) (hw : ∀ w, Near r β Φ w0 w → (execOp a.eval o).run B.P w = .ok (.value v) w)
  | callQ (v : Value) (hr : Rel r β sv v) (hw : ∀ w, Near r β Φ w0 w → ∃ f args, (execOp a.eval o).run B.P w = .ok (.enter f args) w ∧
      Calls B.P f args w (fun e w' => e = .returned v ∧ Near r β Φ w0 w'))
  | callG (hq : q = false) (f : FuncId) (args : Array Value) (hw : (execOp a.eval o).run B.P w0 = .ok (.enter f args) w0)
      (hc : Calls B.P f args w0 (fun e w' => ∃ v r', e = .returned v ∧ Rel r' β sv v ∧ MemSat r' β Φ w' ∧ r.le r' ∧ Hid r β Φ w0 r' β Φ w'))

/-- the value of a plain symbolic value -/
def plainV : SV → Value
  | .int k n => .int k n
  | .bool b => .bool b
  | .str l => .string ⟨l.toArray⟩
  | _ => undef
theorem plain_rel {r β sv v} (h : Rel r β sv v) (hp : sv.plain = true) : v = plainV sv ∧ ∀ r' β', Rel r' β' sv v := by
  cases h <;> first | (cases hp; done) | skip
  · exact ⟨rfl, fun _ _ => .int⟩
  · exact ⟨rfl, fun _ _ => .bool⟩
  · rename_i h; exact ⟨rfl, fun _ _ => .str h⟩

theorem calls_witness {P : Program} {f args w} {R : Ending → World → Prop} (h : Calls P f args w R) : ∃ e w', R e w' := by
  obtain ⟨e, w', _, hR, _⟩ := h []
  exact ⟨e, w', hR⟩

theorem appK_sound {l1 l2 : List SV} : ∀ {K : List SV → Prop}, appK l1 l2 K → K (l1 ++ l2) := by
  induction l1 with
  | nil => intro K h; exact h
  | cons x r ih => intro K h; exact ih h

theorem RelL.append {r β l1 l2 v1 v2} (h1 : RelL r β l1 v1) (h2 : RelL r β l2 v2) : RelL r β (l1 ++ l2) (v1 ++ v2) := by
  induction l1 generalizing v1 with
  | nil =>
    have : v1 = [] := List.length_eq_zero_iff.1 (by simpa using h1.1)
    subst this; exact h2
  | cons x l ih =>
    obtain ⟨v, us, rfl, hv, hus⟩ := h1.uncons
    exact RelL.cons hv (ih hus)

/-- a call of a known function with related arguments -/
theorem call_sound {B : Base} {q Φ f args g} {K : SV → Prop} (h : callK B q Φ f args g K) :
    ∃ sv, K sv ∧ ((∀ p, g p → p) → ∀ r β w0 vs a o, B.G r → MemSat r β Φ w0 → RelL r β args vs →
      (∀ w, (execOp a.eval o).run B.P w = (callFunc f vs.toArray).run B.P w) → OpOk B q r β Φ w0 a o sv) := by
  have plain : ∀ {pre : Prop} {res : SV} {largs : List SV} (fn : Fn B f largs pre res) (pl : res.plain = true) (hp : g (Ob pre))
      (hl : ∀ r β w vs, MemSat r β Φ w → RelL r β args vs → RelL (frz r β Φ w) β largs vs),
      ((∀ p, g p → p) → ∀ r β w0 vs a o, B.G r → MemSat r β Φ w0 → RelL r β args vs →
      (∀ w, (execOp a.eval o).run B.P w = (callFunc f vs.toArray).run B.P w) → OpOk B q r β Φ w0 a o res) := by
    intro pre res largs fn pl hp hl hv r β w0 vs a o hG m hrel hrun
    have call : ∀ w, Near r β Φ w0 w → Calls B.P f vs.toArray w (fun e w' => e = .returned (plainV res) ∧ (∀ r' β', Rel r' β' res (plainV res)) ∧ Near r β Φ w0 w') := by
      intro w hn
      have := fn.ok (hv _ hp).h (frz r β Φ w) β w vs (B.mono _ _ (frz_le hn.mem) hG) (frz_mem hn.mem β) (hl r β w vs hn.mem hrel)
      refine this.mono fun e w' ⟨v, sv, r', β', Φ', he, ⟨h1, h2⟩, hr, m', hle, hid⟩ => ?_
      subst h1; subst h2
      obtain ⟨hv1, hv2⟩ := plain_rel hr pl
      rw [hv1] at he hv2
      exact ⟨he, hv2, hn.trans (near_of_lent hn.mem hle m' hid)⟩
    obtain ⟨e, w', _, hb, _⟩ := calls_witness (call w0 (Near.refl m))
    refine .callQ (plainV res) (hb r β) fun w hn => ⟨f, vs.toArray, ?_, (call w hn).mono fun e w' ⟨h1, _, h3⟩ => ⟨h1, h3⟩⟩
    rw [hrun]
    exact fn.call _ _
  unfold callK at h
  cases q with
  | true =>
    obtain ⟨largs, hk, hl⟩ := lendK_sound h
    cases hk with
    | mk pl hp k =>
      rename_i pre res fn
      exact ⟨res, k, plain fn pl hp hl⟩
  | false =>
    obtain ⟨largs, hk, hl⟩ := lendK_sound h
    cases hk with
    | plain pl hp k =>
      rename_i pre res fn
      exact ⟨res, k, plain fn pl hp hl⟩
    | mk pl hp k =>
      rename_i pre res fn
      refine ⟨res, k, fun hv r β w0 vs a o hG m hrel hrun => ?_⟩
      refine .callG rfl f vs.toArray (by rw [hrun]; exact fn.call _ _) ?_
      have hm0 : MemSat r β [] w0 := ⟨m.vis, fun id ch h => by simp [Phi.get] at h, fun id ch b h => by simp [Phi.get] at h, fun id id' ch ch' b h => by simp [Phi.get] at h⟩
      refine (fn.ok (hv _ hp).h r β w0 vs hG hm0 hrel).mono fun e w' ⟨v, sv, r', β', Φ', he, ⟨h1, h2⟩, hr, m', hle, hid⟩ => ?_
      subst h1; subst h2
      obtain ⟨q1, q2⟩ := mem_of_call m hle m' hid
      exact ⟨v, r', he, hr.pure pl β, q1, hle, q2⟩

theorem OpOk.of_run {B : Base} {q r β Φ w0 a o sv} {v : Value} (hr : Rel r β sv v) (h : ∀ w, Near r β Φ w0 w → (execOp a.eval o).run B.P w = .ok (.value v) w) : OpOk B q r β Φ w0 a o sv := .val v hr h

theorem evalL {a : Act} {xs : List Operand} {l : List SV} {r β} (h1 : l.length = xs.length) (h2 : ∀ (i : Nat) sv x, l[i]? = some sv → xs[i]? = some x → Rel r β sv (a.eval x)) : RelL r β l (xs.map a.eval) :=
  ⟨by simp [h1], fun i sv v q1 q2 => by
    rw [List.getElem?_map] at q2
    cases hx : xs[i]? with
    | none => rw [hx] at q2; cases q2
    | some x => rw [hx] at q2; simp at q2; subst q2; exact h2 i sv x q1 hx⟩

theorem evK_sound {B : Base} {q Φ σ ctx g ung op} {K : SV → Prop} (h : evK B q Φ σ ctx g ung op K)
    (hp : ung = true → ∃ r β a w, Sm r β σ (Act.tmps a) ctx g ∧ MemSat r β Φ w) :
    ∃ sv, K sv ∧ ∀ r β a w0, Sm r β σ (Act.tmps a) ctx g → B.G r → MemSat r β Φ w0 → ∀ dst ty pos after guard, OpOk B q r β Φ w0 a ⟨dst, op, ty, pos, after, guard⟩ sv := by
  unfold evK at h
  split at h
  · -- move
    obtain ⟨sv, hk, hr⟩ := opK_sound h
    exact ⟨sv, hk, fun r β a w0 sm hG m dst ty pos after guard => .val _ (hr r β a g sm) fun w _ => rfl⟩
  · obtain ⟨sv, hk, hr⟩ := opK_sound h
    exact ⟨sv, hk, fun r β a w0 sm hG m dst ty pos after guard => .val _ (hr r β a g sm) fun w _ => rfl⟩
  · -- pick
    obtain ⟨sv, hk, hr⟩ := evPick_sound h
    refine ⟨sv, hk, fun r β a w0 sm hG m dst ty pos after guard => ?_⟩
    obtain ⟨v, hv, hw⟩ := hr r β a g sm
    exact .val v hv fun w _ => hw _ _ _ _ _ _ _
  · -- binOp
    rename_i op t x y t'
    obtain ⟨sx, h, hx⟩ := opK_sound h
    obtain ⟨sy, h, hy⟩ := opK_sound h
    obtain ⟨sv, hk, hr⟩ := evBin_sound h
    refine ⟨sv, hk, fun r β a w0 sm hG m dst ty pos after guard => ?_⟩
    obtain ⟨v, hv, hw⟩ := hr sm.valid r β _ _ (hx r β a g sm) (hy r β a g sm)
    refine .val v hv fun w _ => ?_
    have hgd : (eqGuard op t x y (a.eval x) (a.eval y)).run B.P w = .ok () w := by
      have h1 := hx r β a g sm
      have h2 := hy r β a g sm
      unfold evBin at h
      split at h
      · generalize a.eval x = vx at *; generalize a.eval y = vy at *; cases h1; cases h2; unfold eqGuard; split <;> rfl
      · generalize a.eval x = vx at *; generalize a.eval y = vy at *; cases h1; cases h2; unfold eqGuard; split <;> rfl
      · generalize a.eval x = vx at *; generalize a.eval y = vy at *; cases h1; cases h2; unfold eqGuard; split <;> rfl
      · exact h.elim
    simp only [execOp, Sem.run_bind, hgd, Result.andThen_ok, hw w, Sem.run_pure]
  · -- unOp
    obtain ⟨sx, h, hx⟩ := opK_sound h
    obtain ⟨sv, hk, hr⟩ := evUn_sound (P := B.P) h
    refine ⟨sv, hk, fun r β a w0 sm hG m dst ty pos after guard => ?_⟩
    obtain ⟨v, hv, hw⟩ := hr sm.valid r β _ (hx r β a g sm)
    exact .val v hv fun w _ => by simp only [execOp, Sem.run_bind, hw w, Result.andThen_ok, Sem.run_pure]
  · -- convert
    obtain ⟨sx, h, hx⟩ := opK_sound h
    obtain ⟨sv, hk, hr⟩ := evConv_sound (P := B.P) h
    refine ⟨sv, hk, fun r β a w0 sm hG m dst ty pos after guard => ?_⟩
    obtain ⟨v, hv, hw⟩ := hr sm.valid r β _ (hx r β a g sm)
    exact .val v hv fun w _ => by simp only [execOp, Sem.run_bind, hw w, Result.andThen_ok, Sem.run_pure]
  · -- index
    obtain ⟨sx, h, hx⟩ := opK_sound h
    obtain ⟨si, h, hi⟩ := opK_sound h
    obtain ⟨sv, hk, hr⟩ := evIndex_sound h
    refine ⟨sv, hk, fun r β a w0 sm hG m dst ty pos after guard => ?_⟩
    obtain ⟨v, hv, hw⟩ := hr sm.valid r β _ _ (hx r β a g sm) (hi r β a g sm)
    exact .val v hv fun w _ => by simp only [execOp, Sem.run_bind, hw w, Result.andThen_ok, Sem.run_pure]
  · -- slice
    rename_i t x lo hi
    obtain ⟨sx, h, hx⟩ := opK_sound h
    obtain ⟨slo, h, hlo⟩ := loK_sound h
    obtain ⟨shi, h, hhi⟩ := loK_sound h
    obtain ⟨sv, hk, hr⟩ := evSlice_sound h
    refine ⟨sv, hk, fun r β a w0 sm hG m dst ty pos after guard => ?_⟩
    have conv : ∀ (x : Option Operand) (y : Option Int), OptEv a x y → OptIs y (x.map a.eval) := by
      intro x y h; cases x <;> cases y <;> first | exact h | trivial
    obtain ⟨v, hv, hw⟩ := hr sm.valid r β _ _ _ (hx r β a g sm) (conv _ _ (hlo r β a g sm)) (conv _ _ (hhi r β a g sm))
    exact .val v hv fun w _ => by simp only [execOp, Option.map_none, Sem.run_bind, hw w, Result.andThen_ok, Sem.run_pure]
  · -- field
    obtain ⟨sx, h, hx⟩ := opK_sound h
    obtain ⟨sv, hk, hr⟩ := evField_sound h
    refine ⟨sv, hk, fun r β a w0 sm hG m dst ty pos after guard => ?_⟩
    obtain ⟨v, hv, hw⟩ := hr r β _ (hx r β a g sm)
    exact .val v hv fun w _ => by simp only [execOp, Sem.run_bind, hw w, Result.andThen_ok, Sem.run_pure]
  · -- load
    obtain ⟨sx, h, hx⟩ := opK_sound h
    obtain ⟨sv, hk, hr⟩ := evLoad_sound h
    refine ⟨sv, hk, fun r β a w0 sm hG m dst ty pos after guard => ?_⟩
    obtain ⟨v, hv, hw⟩ := hr sm.valid r β _ (hx r β a g sm) w0 m
    exact .val v hv fun w hn => by simp only [execOp, Sem.run_bind, hw w hn, Result.andThen_ok, Sem.run_pure]
  · -- fieldAddr
    obtain ⟨sx, h, hx⟩ := opK_sound h
    obtain ⟨sv, hk, hr⟩ := evFieldAddr_sound h
    refine ⟨sv, hk, fun r β a w0 sm hG m dst ty pos after guard => ?_⟩
    obtain ⟨v, hv, hw⟩ := hr r β _ (hx r β a g sm)
    exact .val v hv fun w _ => by simp only [execOp, Sem.run_bind, hw w, Result.andThen_ok, Sem.run_pure]
  · -- indexAddr
    obtain ⟨sx, h, hx⟩ := opK_sound h
    obtain ⟨si, h, hi⟩ := opK_sound h
    obtain ⟨sv, hk, hr⟩ := evIndexAddr_sound h
    refine ⟨sv, hk, fun r β a w0 sm hG m dst ty pos after guard => ?_⟩
    obtain ⟨v, hv, hw⟩ := hr sm.valid r β _ _ (hx r β a g sm) (hi r β a g sm) w0 m
    exact .val v hv fun w _ => by simp only [execOp, Sem.run_bind, hw w, Result.andThen_ok, Sem.run_pure]
  · -- extract
    rename_i x i
    obtain ⟨sx, h, hx⟩ := opK_sound h
    cases sx <;> simp only at h
    rename_i l
    split at h
    · rename_i sv hn
      rw [nth_eq] at hn
      refine ⟨sv, h, fun r β a w0 sm hG m dst ty pos after guard => ?_⟩
      have hv := hx r β a g sm
      generalize hq : a.eval x = v at hv
      cases hv with
      | tup hl hr =>
        rename_i cs
        have hlt : i < cs.length := by
          rcases Nat.lt_or_ge i l.length with h | h
          · omega
          · rw [List.getElem?_eq_none h] at hn; cases hn
        have hc : cs[i]? = some cs[i] := List.getElem?_eq_getElem hlt
        refine .val cs[i] (hr _ _ _ hn hc) fun w _ => ?_
        simp [execOp, hq, Instr.extract, hlt]
    · exact h.elim
  · -- build
    rename_i t parts
    obtain ⟨sv, hk, hr⟩ := evBuild_sound h
    refine ⟨sv, hk, fun r β a w0 sm hG m dst ty pos after guard => ?_⟩
    obtain ⟨v, hv, hw⟩ := hr r β a g sm
    refine .val v hv fun w _ => ?_
    have : (Array.map (fun (x : Nat × Operand) => (x.1, a.eval x.2)) ⟨parts⟩) = (parts.map fun (i, x) => (i, a.eval x)).toArray := by simp
    simp only [execOp, Sem.run_bind]
    rw [this, hw w]; rfl
  · -- makeFunc
    rename_i f caps
    obtain ⟨l, hk, h1, h2⟩ := opsK_sound h
    refine ⟨_, hk, fun r β a w0 sm hG m dst ty pos after guard => ?_⟩
    have hl := evalL h1 (h2 r β a g sm)
    refine .val (.func (.func f) #[] (caps.map a.eval).toArray) (.fn hl.1 hl.2) fun w _ => ?_
    simp [execOp, Instr.makeFunc]
  · -- builtin
    rename_i b xs ts
    obtain ⟨l, h, h1, h2⟩ := opsK_sound h
    obtain ⟨sv, hk, hr⟩ := evBuiltin_sound h (fun hu => by
      obtain ⟨r, β, a, w, sm, m⟩ := hp hu
      exact ⟨r, β, xs.map a.eval, w, evalL h1 (h2 r β a g sm), m⟩)
    refine ⟨sv, hk, fun r β a w0 sm hG m dst ty pos after guard => ?_⟩
    obtain ⟨v, hv, hw⟩ := hr r β _ (evalL h1 (h2 r β a g sm))
    refine .val v hv fun w hn => ?_
    have := hw w ty (Array.map (fun | .const _ => true | _ => false) (⟨xs⟩ : Array Operand)) hn.mem
    simp only [execOp, resolve, Sem.run_bind, Sem.run_pure, Result.andThen_ok, invoke]
    rw [show Array.map a.eval ⟨xs⟩ = (xs.map a.eval).toArray by simp]
    exact this
  · -- a call
    rename_i f xs ts
    obtain ⟨fv, h, hf⟩ := opK_sound h
    cases fv <;> simp only at h
    rename_i fid caps
    obtain ⟨l, h, h1, h2⟩ := opsK_sound h
    have h := appK_sound h
    obtain ⟨sv, hk, hr⟩ := call_sound h
    refine ⟨sv, hk, fun r β a w0 sm hG m dst ty pos after guard => ?_⟩
    have hfv := hf r β a g sm
    generalize hq : a.eval f = v at hfv
    cases hfv with
    | fn hl hc =>
      rename_i cs
      refine hr sm.valid r β w0 (xs.map a.eval ++ cs) a _ hG m ((evalL h1 (h2 r β a g sm)).append ⟨hl, hc⟩) fun w => ?_
      simp only [execOp, resolve, hq, Deferred.ofValue, Sem.run_bind, Sem.run_pure, Result.andThen_ok, invoke]
      congr 2
      simp
  · exact h.elim

end Go.Vc
