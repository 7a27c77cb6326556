/- A part of the proof: lemmas and walks that the last text of the claim joins; no condition. -/
import Derived.Test.YtgggnkinalmmlaaVcE
import Derived.OrdersIn
import Derived.Still
set_option linter.unusedVariables false
set_option linter.unusedSimpArgs false
namespace Go.Vc
set_option autoImplicit false
set_option linter.unusedVariables false
set_option linter.unusedSimpArgs false

theorem vcOp_sound {B : Base} {F : Entry → Prop} {e N r β σ Φ a w n op} {K : EK} (hY : YOk B F N) (hF : F e) (h : vcOp B op σ Φ n K) (s : Sat B e N r β σ Φ a w) {dst ty pos after guard} :
    (∀ c, op ≠ .defer c) ∧ OpTo B.P a w ⟨dst, op, ty, pos, after, guard⟩ (fun v w' => ∃ e', F e' ∧ After B e' N a σ K v w') := by
  have ev : ∀ {x : Operand} {sv : SV}, (∀ p r β (a : Act) g, Has p x → Sm p r β σ a.tmps [] g → Rel r β sv (a.eval x)) → Rel r β sv (a.eval x) := fun h => h _ r β a _ (hasT _) (Sm.plain s.agree)
  unfold vcOp at h
  split at h
  · rename_i t
    obtain ⟨l, z, hk, ho, _, hz, hl⟩ := zeroK_sound h
    have hk' : ∃ To : Option Nat, (∀ t', To = some t' → t = t') ∧ newK n To l σ Φ K := by
      cases hq : B.tb t with
      | true => rw [hq] at hk; exact ⟨some t, fun t' ht => (Option.some.inj ht), hk⟩
      | false => rw [hq] at hk; exact ⟨none, (fun t' ht => by cases ht), hk⟩
    obtain ⟨To, hTo, hk⟩ := hk'
    obtain ⟨sv, σ', Φ', n', hk2, rfl, β', hr, s'⟩ := newK_sound hk s t hTo z.cells (hl r β)
    refine ⟨(fun c hc => by cases hc), .val (.pointer (some ⟨w.heap.size, 0, none⟩)) { w with heap := w.heap.push (.cells z.cells t) } ?_ ⟨e, hF, _, _, _, _, _, _, hk2, hr, s', fun _ h => h⟩⟩
    simp only [execOp, Instr.alloc, Sem.run_bind, hz, Result.andThen_ok, newVar, newRow, run_newObj, Sem.run_pure]
  · rename_i t x
    obtain ⟨sx, h, hx⟩ := opK_sound h
    obtain ⟨l, hk, ho, _, hl⟩ := cellsK_sound h
    obtain ⟨sv, σ', Φ', n', hk2, rfl, β', hr, s'⟩ := newK_sound hk s t (fun t' ht => by cases ht) (a.eval x).cells (hl r β _ (ev hx))
    refine ⟨(fun c hc => by cases hc), .val (.pointer (some ⟨w.heap.size, 0, none⟩)) { w with heap := w.heap.push (.cells (a.eval x).cells t) } ?_ ⟨e, hF, _, _, _, _, _, _, hk2, hr, s', fun _ h => h⟩⟩
    simp only [execOp, Instr.box, Sem.run_bind, Result.andThen_ok, newVar, newRow, run_newObj, Sem.run_pure]
  · -- store
    rename_i t p x
    obtain ⟨sp, h, hp⟩ := opK_sound h
    obtain ⟨sx, h, hx⟩ := opK_sound h
    obtain ⟨sv, σ', Φ', r', w', hk, hrun, rfl, s', hD⟩ := storeFK_sound h s (ev hp) (ev hx)
    refine ⟨(fun c hc => by cases hc), .skip w' ?_ ⟨e, hF, _, _, _, _, _, _, hk, .und, s', hD⟩⟩
    simp only [execOp, Sem.run_bind, hrun, Result.andThen_ok, Sem.run_pure]
  · -- buildSlice
    rename_i t ln parts
    obtain ⟨xs, h, _, _⟩ := opsK_sound h
    obtain ⟨_, σ1, Φ1, r1, h, s1, _, hD⟩ := frzK_sound h s (vs := []) ⟨rfl, fun i sv v h => by simp at h⟩
    obtain ⟨sv, Φ', n', v, w', β', hk, hrun, hr, s'⟩ := buildSliceK_sound h s1
    refine ⟨(fun c hc => by cases hc), .val v w' ?_ ⟨e, hF, _, _, _, _, _, _, hk, hr, s', hD⟩⟩
    have e : (Array.map (fun (x : Nat × Operand) => (x.1, a.eval x.2)) ⟨parts⟩) = (parts.map fun (i, x) => (i, a.eval x)).toArray := by simp
    simp only [execOp, Sem.run_bind]
    rw [e, hrun]; rfl
  · -- makeSlice
    rename_i t l c
    obtain ⟨sl, h, hl⟩ := opK_sound h
    obtain ⟨sc, h, hc⟩ := opK_sound h
    obtain ⟨sv, Φ', n', v, w', β', hk, hrun, hr, s'⟩ := makeSliceK_sound h s (ev hl) (ev hc)
    refine ⟨(fun c hc => by cases hc), .val v w' ?_ ⟨e, hF, _, _, _, _, _, _, hk, hr, s', fun _ h => h⟩⟩
    simp only [execOp, Sem.run_bind, hrun, Result.andThen_ok, Sem.run_pure]
  · -- makeMap
    rename_i t
    obtain ⟨sv, Φ', n', v, w', β', hk, hrun, hr, s'⟩ := makeMapK_sound h s
    refine ⟨(fun c hc => by cases hc), .val v w' ?_ ⟨e, hF, _, _, _, _, _, _, hk, hr, s', fun _ h => h⟩⟩
    simp only [execOp, Sem.run_bind, Option.map_none, hrun none (.inl rfl), Result.andThen_ok, Sem.run_pure]
  · -- makeMap
    rename_i t ro
    obtain ⟨sr, h, hro⟩ := opK_sound h
    cases sr <;> simp only at h
    obtain ⟨sv, Φ', n', v, w', β', hk, hrun, hr, s'⟩ := makeMapK_sound h s
    refine ⟨(fun c hc => by cases hc), .val v w' ?_ ⟨e, hF, _, _, _, _, _, _, hk, hr, s', fun _ h => h⟩⟩
    have he := ev hro
    generalize hq : a.eval ro = u at he
    cases he
    simp only [execOp, Sem.run_bind, Option.map_some, hq, hrun _ (.inr ⟨_, _, rfl⟩), Result.andThen_ok, Sem.run_pure]
  · -- mapUpdate
    rename_i t m k x
    obtain ⟨sm, h, hm⟩ := opK_sound h
    obtain ⟨sk, h, hk⟩ := opK_sound h
    obtain ⟨sx, h, hx⟩ := opK_sound h
    obtain ⟨sv, Φ', w', hk, hrun, rfl, s'⟩ := mapSetK_sound h s (ev hm) (ev hk) (ev hx)
    refine ⟨(fun c hc => by cases hc), .skip w' ?_ ⟨e, hF, _, _, _, _, _, _, hk, .und, s', fun _ h => h⟩⟩
    simp only [execOp, Sem.run_bind, hrun, Result.andThen_ok, Sem.run_pure]
  · -- insert
    rename_i t m k x
    obtain ⟨sm, h, hm⟩ := opK_sound h
    obtain ⟨sk, h, hk⟩ := opK_sound h
    obtain ⟨sx, h, hx⟩ := opK_sound h
    obtain ⟨sv, Φ', w', hk, hrun, rfl, s'⟩ := mapSetK_sound h s (ev hm) (ev hk) (ev hx)
    refine ⟨(fun c hc => by cases hc), .skip w' ?_ ⟨e, hF, _, _, _, _, _, _, hk, .und, s', fun _ h => h⟩⟩
    simp only [execOp, Sem.run_bind, hrun, Result.andThen_ok, Sem.run_pure]
  · -- convert
    rename_i sT dT x
    obtain ⟨sx, h, hx⟩ := opK_sound h
    obtain ⟨sv, Φ', n', v, w', β', hk, hrun, hr, s'⟩ := convBK_sound h s (ev hx)
    refine ⟨(fun c hc => by cases hc), .val v w' ?_ ⟨e, hF, _, _, _, _, _, _, hk, hr, s', fun _ h => h⟩⟩
    simp only [execOp, Sem.run_bind, hrun, Result.andThen_ok, Sem.run_pure]
  · -- range
    rename_i t x
    obtain ⟨sx, h, hx⟩ := opK_sound h
    obtain ⟨sv, Φ', n', v, w', β', hk, hrun, hr, s'⟩ := rangeK_sound h s (ev hx)
    refine ⟨(fun c hc => by cases hc), .val v w' ?_ ⟨e, hF, _, _, _, _, _, _, hk, hr, s', fun _ h => h⟩⟩
    simp only [execOp, Sem.run_bind, hrun, Result.andThen_ok, Sem.run_pure]
  · -- next
    rename_i x is
    obtain ⟨sx, h, hx⟩ := opK_sound h
    obtain ⟨sv, Φ', n', v, w', hk, hrun, hr, s'⟩ := nextK_sound (ty := ty) h s (ev hx)
    refine ⟨(fun c hc => by cases hc), .val v w' ?_ ⟨e, hF, _, _, _, _, _, _, hk, hr, s', fun _ h => h⟩⟩
    simp only [execOp, Sem.run_bind, hrun, Result.andThen_ok, Sem.run_pure]
  · -- a slice and nil
    rename_i t x t2
    obtain ⟨sx, h, hx⟩ := opK_sound h
    obtain ⟨b, hk, hrun, av, nv, cv, hv⟩ := nilK_sound h s.mem (ev hx)
    refine ⟨(fun c hc => by cases hc), .val (.bool b) w ?_ ⟨e, hF, _, _, _, _, _, _, hk, .bool, s, fun _ h => h⟩⟩
    have he : a.eval (.const (.slice none 0 0)) = .slice none 0 0 := rfl
    rw [hv] at hrun
    simp only [execOp, Sem.run_bind, hv, he, guard_slice, Result.andThen_ok]
    have hb : (Go.binOp .eql t (.slice av nv cv) (.slice none 0 0)).run B.P w = .ok (.bool b) w := by
      show Sem.run B.P (do pure (Value.bool (← Op.equal t _ _))) w = _
      rw [Sem.run_bind, hrun]; rfl
    rw [hb]; rfl
  · -- a slice, not nil
    rename_i t x t2
    obtain ⟨sx, h, hx⟩ := opK_sound h
    obtain ⟨b, hk, hrun, av, nv, cv, hv⟩ := nilK_sound h s.mem (ev hx)
    refine ⟨(fun c hc => by cases hc), .val (.bool (!b)) w ?_ ⟨e, hF, _, _, _, _, _, _, hk, .bool, s, fun _ h => h⟩⟩
    have he : a.eval (.const (.slice none 0 0)) = .slice none 0 0 := rfl
    rw [hv] at hrun
    simp only [execOp, Sem.run_bind, hv, he, guard_slice, Result.andThen_ok]
    have hb : (Go.binOp .neq t (.slice av nv cv) (.slice none 0 0)).run B.P w = .ok (.bool (!b)) w := by
      show Sem.run B.P (do pure (Value.bool (!(← Op.equal t _ _)))) w = _
      rw [Sem.run_bind, hrun]; rfl
    rw [hb]; rfl
  · -- cut
    rename_i t x hi
    obtain ⟨sx, h, hx⟩ := opK_sound h
    split at h
    · rename_i id
      obtain ⟨sh, h, hh⟩ := opK_sound h
      obtain ⟨sv, σ', Φ', n', v, β', hk, hrun, hr, s', hD⟩ := cutK_sound h s (ev hh)
      refine ⟨(fun c hc => by cases hc), .val v w ?_ ⟨e, hF, _, _, _, _, _, _, hk, hr, s', hD⟩⟩
      have he : a.eval x = β id := by
        have := ev hx
        generalize a.eval x = u at this
        cases this; rfl
      simp only [execOp, Sem.run_bind, Option.map_some, Option.map_none, he, hrun, Result.andThen_ok, Sem.run_pure]
    · obtain ⟨sv, hk, hnd, hop⟩ := evK_sound h (fun _ => ⟨_, r, β, a, w, fun _ _ => hasT _, Sm.plain s.agree, s.mem⟩)
      refine ⟨hnd, (hop _ r β a w (fun _ _ => hasT _) (Sm.plain s.agree) s.G s.mem dst ty pos after guard).mono ?_⟩
      rintro v w' ⟨r', hr, hle, m', hid⟩
      exact ⟨e, hF, sv, σ, Φ, n, r', β, hk, hr, s.step (s.agree.of fun k g sv hk => ⟨sv, hk, fun v hr => hr.mono hle⟩) m' hle hid, fun D hD => hD⟩
  · -- the end of it
    rename_i t x lo
    obtain ⟨sx, h, hx⟩ := opK_sound h
    split at h
    · rename_i id
      obtain ⟨sl, h, hl⟩ := opK_sound h
      obtain ⟨sv, v, hk, hrun, hr⟩ := tailK_sound h s (ev hl)
      refine ⟨(fun c hc => by cases hc), .val v w ?_ ⟨e, hF, _, _, _, _, _, _, hk, hr, s, fun _ h => h⟩⟩
      have he : a.eval x = β id := by
        have := ev hx
        generalize a.eval x = u at this
        cases this; rfl
      simp only [execOp, Sem.run_bind, Option.map_some, Option.map_none, he, hrun, Result.andThen_ok, Sem.run_pure]
    · obtain ⟨sv, hk, hnd, hop⟩ := evK_sound h (fun _ => ⟨_, r, β, a, w, fun _ _ => hasT _, Sm.plain s.agree, s.mem⟩)
      refine ⟨hnd, (hop _ r β a w (fun _ _ => hasT _) (Sm.plain s.agree) s.G s.mem dst ty pos after guard).mono ?_⟩
      rintro v w' ⟨r', hr, hle, m', hid⟩
      exact ⟨e, hF, sv, σ, Φ, n, r', β, hk, hr, s.step (s.agree.of fun k g sv hk => ⟨sv, hk, fun v hr => hr.mono hle⟩) m' hle hid, fun D hD => hD⟩
  · -- clear
    rename_i x t
    obtain ⟨sx, h, hx⟩ := opK_sound h
    split at h
    · obtain ⟨sv, Φ', v, w', hk, hrun, hr, s'⟩ := clearK_sound (ty := ty) h s (ev hx)
      refine ⟨(fun c hc => by cases hc), .val v w' ?_ ⟨e, hF, _, _, _, _, _, _, hk, hr, s', fun _ h => h⟩⟩
      simp only [execOp, resolve, Sem.run_bind, Sem.run_pure, Result.andThen_ok, invoke, builtin]
      rw [show Array.map a.eval ⟨[x]⟩ = #[a.eval x] by simp]
      rw [hrun]; rfl
    · obtain ⟨sv, hk, hnd, hop⟩ := evK_sound h (fun _ => ⟨_, r, β, a, w, fun _ _ => hasT _, Sm.plain s.agree, s.mem⟩)
      refine ⟨hnd, (hop _ r β a w (fun _ _ => hasT _) (Sm.plain s.agree) s.G s.mem dst ty pos after guard).mono ?_⟩
      rintro v w' ⟨r', hr, hle, m', hid⟩
      exact ⟨e, hF, sv, σ, Φ, n, r', β, hk, hr, s.step (s.agree.of fun k g sv hk => ⟨sv, hk, fun v hr => hr.mono hle⟩) m' hle hid, fun D hD => hD⟩
  · -- append
    rename_i sl x ts tx
    obtain ⟨ss, h, hs⟩ := opK_sound h
    obtain ⟨sx, h, hx⟩ := opK_sound h
    split at h
    · have hs' := ev hs
      generalize hq : a.eval sl = u at hs'
      cases hs'
      obtain ⟨sv, σ', Φ', n', v, w', β', hk, hrun, hr, s', hD⟩ := appN_sound (ty := ty) h s (ev hx)
      refine ⟨(fun c hc => by cases hc), .val v w' ?_ ⟨e, hF, _, _, _, _, _, _, hk, hr, s', hD⟩⟩
      simp only [execOp, resolve, Sem.run_bind, Sem.run_pure, Result.andThen_ok, invoke, builtin]
      rw [show Array.map a.eval ⟨[sl, x]⟩ = #[a.eval sl, a.eval x] by simp, hq]
      rw [hrun]; rfl
    · obtain ⟨sv, σ', Φ', n', v, w', β', hk, hrun, hr, s', hD⟩ := appendK_sound (ty := ty) h s (ev hs) (ev hx)
      refine ⟨(fun c hc => by cases hc), .val v w' ?_ ⟨e, hF, _, _, _, _, _, _, hk, hr, s', hD⟩⟩
      simp only [execOp, resolve, Sem.run_bind, Sem.run_pure, Result.andThen_ok, invoke, builtin]
      rw [show Array.map a.eval ⟨[sl, x]⟩ = #[a.eval sl, a.eval x] by simp]
      rw [hrun]; rfl
  · -- where the first element lies
    rename_i x ts
    obtain ⟨sx, h, hx⟩ := opK_sound h
    obtain ⟨sv, v, hk, hrun, hr⟩ := sdataK_sound (t := ts) (ty := ty) h s (ev hx)
    refine ⟨(fun c hc => by cases hc), .val v w ?_ ⟨e, hF, _, _, _, _, _, _, hk, hr, s, fun _ h => h⟩⟩
    simp only [execOp, resolve, Sem.run_bind, Sem.run_pure, Result.andThen_ok, invoke, builtin]
    rw [show Array.map a.eval ⟨[x]⟩ = #[a.eval x] by simp]
    rw [hrun]; rfl
  · -- bytes, as a text
    rename_i p i tp ti
    obtain ⟨sp, h, hp⟩ := opK_sound h
    obtain ⟨si, h, hi⟩ := opK_sound h
    obtain ⟨sv, σ', Φ', n', v, w', β', hk, hrun, hr, s', hD⟩ := ustrK_sound (ti := ti) (ty := ty) h s (ev hp) (ev hi)
    refine ⟨(fun c hc => by cases hc), .val v w' ?_ ⟨e, hF, _, _, _, _, _, _, hk, hr, s', hD⟩⟩
    simp only [execOp, resolve, Sem.run_bind, Sem.run_pure, Result.andThen_ok, invoke, builtin]
    rw [show Array.map a.eval ⟨[p, i]⟩ = #[a.eval p, a.eval i] by simp]
    rw [hrun]; rfl
  · -- delete
    rename_i m k tm tk
    obtain ⟨sm, h, hm⟩ := opK_sound h
    obtain ⟨sk, h, hk⟩ := opK_sound h
    obtain ⟨sv, Φ', v, w', hk, hrun, rfl, s'⟩ := mapDelK_sound h s (ev hm) (ev hk) tk ty
    refine ⟨(fun c hc => by cases hc), .val v w' ?_ ⟨e, hF, _, _, _, _, _, _, hk, .und, s', fun _ h => h⟩⟩
    simp only [execOp, resolve, Sem.run_bind, Sem.run_pure, Result.andThen_ok, invoke, builtin]
    rw [show Array.map a.eval ⟨[m, k]⟩ = #[a.eval m, a.eval k] by simp]
    rw [hrun]; rfl
  · -- len
    rename_i x t
    obtain ⟨sx, h, hx⟩ := opK_sound h
    split at h
    · obtain ⟨sv, v, hk, hrun, hr⟩ := mapLenK_sound h s (ev hx) ty
      refine ⟨(fun c hc => by cases hc), .val v w ?_ ⟨e, hF, _, _, _, _, _, _, hk, hr, s, fun _ h => h⟩⟩
      simp only [execOp, resolve, Sem.run_bind, Sem.run_pure, Result.andThen_ok, invoke, builtin]
      rw [show Array.map a.eval ⟨[x]⟩ = #[a.eval x] by simp]
      rw [hrun]; rfl
    · obtain ⟨sv, hk, hnd, hop⟩ := evK_sound h (fun _ => ⟨_, r, β, a, w, fun _ _ => hasT _, Sm.plain s.agree, s.mem⟩)
      refine ⟨hnd, (hop _ r β a w (fun _ _ => hasT _) (Sm.plain s.agree) s.G s.mem dst ty pos after guard).mono ?_⟩
      rintro v w' ⟨r', hr, hle, m', hid⟩
      exact ⟨e, hF, sv, σ, Φ, n, r', β, hk, hr, s.step (s.agree.of fun k g sv hk => ⟨sv, hk, fun v hr => hr.mono hle⟩) m' hle hid, fun D hD => hD⟩
  · -- a call
    rename_i f xs ts
    obtain ⟨fv, h, hf⟩ := opK_sound h
    split at h
    · rename_i fid caps
      obtain ⟨l, h, h1, h2⟩ := opsK_sound h
      have h := appK_sound h
      have hfv := ev hf
      generalize hq : a.eval f = v at hfv
      cases hfv with
      | fn hl hc =>
        rename_i cs
        cases hne : B.ne fid with
        | true =>
          rw [hne] at h
          simp only [cond_true] at h
          split at h
          · rename_i x1 hx1
            have hrl : RelL r β [x1] (xs.map a.eval ++ cs) := by rw [← hx1]; exact (evalL h1 (h2 _ r β a _ (fun _ _ => hasT _) (Sm.plain s.agree))).append ⟨hl, hc⟩
            obtain ⟨u, hu⟩ : ∃ u, xs.map a.eval ++ cs = [u] := by
              have := hrl.1
              simp only [List.length_cons, List.length_nil] at this
              exact List.length_eq_one_iff.1 this
            rw [hu] at hrl
            refine ⟨(fun c hc => by cases hc), .val u w ?_ ⟨e, hF, _, _, _, _, _, _, h, hrl.2 0 _ u rfl rfl, s, fun _ h => h⟩⟩
            have hcall := B.ne_ok fid hne u w
            have hargs : (#[] ++ Array.map a.eval ⟨xs⟩ ++ cs.toArray) = #[u] := by have := congrArg List.toArray hu; simpa using this
            simp only [execOp, resolve, hq, Deferred.ofValue, Sem.run_bind, Sem.run_pure, Result.andThen_ok, invoke]
            rw [hargs, hcall]
            try rfl
          · exact h.elim
        | false =>
        rw [hne] at h
        simp only [cond_false] at h
        refine ⟨(fun c hc => by cases hc), (callS_sound h s (vs := xs.map a.eval ++ cs) ((evalL h1 (h2 _ r β a _ (fun _ _ => hasT _) (Sm.plain s.agree))).append ⟨hl, hc⟩) fun w => ?_).mono fun v w' h => ⟨e, hF, h⟩⟩
        simp only [execOp, resolve, hq, Deferred.ofValue, Sem.run_bind, Sem.run_pure, Result.andThen_ok, invoke]
        congr 2
        simp
    · rename_i l
      obtain ⟨ys, h, h1, h2⟩ := opsK_sound h
      have hfv := ev hf
      generalize hq : a.eval f = v at hfv
      cases hfv
      obtain ⟨fn, tmps, assign, body, hrun, hr⟩ := yieldK_sound hY h hF s (evalL h1 (h2 _ r β a _ (fun _ _ => hasT _) (Sm.plain s.agree)))
      refine ⟨(fun c hc => by cases hc), .round l fn tmps assign body ?_ hr⟩
      simp only [execOp, resolve, hq, Deferred.ofValue, Sem.run_bind, Sem.run_pure, Result.andThen_ok, invoke]
      have e : (Array.map a.eval ⟨xs⟩ ++ #[]) = (xs.map a.eval).toArray := by simp
      first | (rw [e]; exact hrun) | (simp; simpa using hrun)
    · exact h.elim
  · obtain ⟨sv, hk, hnd, hop⟩ := evK_sound h (fun _ => ⟨_, r, β, a, w, fun _ _ => hasT _, Sm.plain s.agree, s.mem⟩)
    refine ⟨hnd, (hop _ r β a w (fun _ _ => hasT _) (Sm.plain s.agree) s.G s.mem dst ty pos after guard).mono ?_⟩
    rintro v w' ⟨r', hr, hle, m', hid⟩
    exact ⟨e, hF, sv, σ, Φ, n, r', β, hk, hr, s.step (s.agree.of fun k g sv hk => ⟨sv, hk, fun v hr => hr.mono hle⟩) m' hle hid, fun D hD => hD⟩

theorem dstOf_spec {all : List Oper} {j s : Nat} (h : dstOf all j = some s) : ∃ o, all[j]? = some o ∧ o.dst = some s := by
  unfold dstOf at h
  rw [nth_eq] at h
  split at h
  · exact ⟨_, by assumption, h⟩
  · cases h
theorem yielded_of {all : List Oper} {j s : Nat} (h : dstOf all j = some s) (t : Array Value) (w : Bool) : (yielded all.toArray t j == some w) = true ↔ t[s]? = some (.bool w) := by
  obtain ⟨o, h1, h2⟩ := dstOf_spec h
  unfold yielded
  simp only [List.getElem?_toArray, h1, Option.bind_some, h2]
  cases hq : t[s]? with
  | none => simp
  | some v => cases v <;> simp


structure RegOk (N : Nat) (all : List Oper) : Prop where
  lt : ∀ o ∈ all, ∀ d, o.dst = some d → d < N
  nodup : (dsts all).Nodup
  before : ∀ (i : Nat) (o : Oper), all[i]? = some o → ∀ j w, o.guard = some (j, w) → j < i

theorem notDst_spec {d : Nat} {l : List Oper} (h : notDst d l = true) : d ∉ dsts l := by
  induction l with
  | nil => simp [dsts]
  | cons o r ih =>
    simp only [notDst, Bool.and_eq_true] at h
    have := ih h.2
    cases hd : o.dst with
    | none => simp only [dsts, List.filterMap_cons, hd]; exact this
    | some d' =>
      simp only [dsts, List.filterMap_cons, hd, List.mem_cons, not_or]
      refine ⟨?_, this⟩
      rintro rfl
      have h1 := h.1
      rw [hd] at h1
      simp [Nat.beq_refl] at h1
theorem regOk_of {N : Nat} {all : List Oper} (h1 : allDst N all = true) (h2 : distinctDst all = true) (h3 : guardsOk 0 all = true) : RegOk N all := by
  refine ⟨?_, ?_, ?_⟩
  · clear h2 h3
    induction all with
    | nil => intro o ho; cases ho
    | cons x r ih =>
      simp only [allDst, Bool.and_eq_true] at h1
      intro o ho d hd
      cases ho with
      | head =>
        have := h1.1
        rw [hd] at this
        exact (Nat.blt_eq ▸ this : _ < _)
      | tail _ ho => exact ih h1.2 o ho d hd
  · clear h1 h3
    induction all with
    | nil => exact List.nodup_nil
    | cons x r ih =>
      simp only [distinctDst, Bool.and_eq_true] at h2
      have := ih h2.2
      cases hd : x.dst with
      | none => simp only [dsts, List.filterMap_cons, hd]; exact this
      | some d =>
        simp only [dsts, List.filterMap_cons, hd]
        have h := h2.1
        rw [hd] at h
        exact List.nodup_cons.2 ⟨notDst_spec h, this⟩
  · clear h1 h2
    have gen : ∀ (l : List Oper) (k : Nat), guardsOk k l = true → ∀ (i : Nat) (o : Oper), l[i]? = some o → ∀ j w, o.guard = some (j, w) → j < k + i := by
      intro l
      induction l with
      | nil => intro k _ i o hi; simp at hi
      | cons x r ih =>
        intro k h i o hi j w hg
        simp only [guardsOk, Bool.and_eq_true] at h
        cases i with
        | zero =>
          simp at hi; subst hi
          have := h.1
          rw [hg] at this
          simpa [Nat.blt_eq] using this
        | succ i =>
          have := ih (k + 1) h.2 i o (by simpa using hi) j w hg
          omega
    intro i o hi j w hg
    have := gen all 0 h3 i o hi j w hg
    omega


theorem mem_dsts_take {all : List Oper} {i s : Nat} : s ∈ dsts (all.take i) ↔ ∃ j o, j < i ∧ all[j]? = some o ∧ o.dst = some s := by
  unfold dsts
  rw [List.mem_filterMap]
  constructor
  · rintro ⟨o, ho, hd⟩
    obtain ⟨j, hj, rfl⟩ := List.getElem_of_mem ho
    rw [List.length_take] at hj
    refine ⟨j, _, by omega, ?_, hd⟩
    rw [List.getElem_take]; exact List.getElem?_eq_getElem (by omega)
  · rintro ⟨j, o, hj, ho, hd⟩
    refine ⟨o, ?_, hd⟩
    have := lt_len ho
    exact List.mem_of_getElem? (i := j) (by rw [List.getElem?_take, if_pos hj]; exact ho)
theorem RegOk.uniq {N all} (h : RegOk N all) : ∀ {i j : Nat} {oi oj : Oper} {d : Nat}, all[i]? = some oi → all[j]? = some oj → oi.dst = some d → oj.dst = some d → i = j := by
  have key : ∀ (l : List Oper), (dsts l).Nodup → ∀ (i j : Nat) (oi oj : Oper) (d : Nat), l[i]? = some oi → l[j]? = some oj → oi.dst = some d → oj.dst = some d → i = j := by
    intro l
    induction l with
    | nil => intro _ i j oi oj d h; simp at h
    | cons x r ih =>
      intro hn i j oi oj d hi hj hdi hdj
      have hmem : ∀ {k : Nat} {ok : Oper}, r[k]? = some ok → ok.dst = some d → d ∈ dsts r := fun hk hd => List.mem_filterMap.2 ⟨_, List.mem_of_getElem? hk, hd⟩
      have hr : (dsts r).Nodup := by
        cases hx : x.dst with
        | none => simpa [dsts, hx] using hn
        | some d' => simp only [dsts, List.filterMap_cons, hx] at hn; exact (List.nodup_cons.1 hn).2
      cases i with
      | zero =>
        cases j with
        | zero => rfl
        | succ j =>
          simp at hi; subst hi
          simp only [dsts, List.filterMap_cons, hdi] at hn
          exact ((List.nodup_cons.1 hn).1 (hmem (by simpa using hj) hdj)).elim
      | succ i =>
        cases j with
        | zero =>
          simp at hj; subst hj
          simp only [dsts, List.filterMap_cons, hdj] at hn
          exact ((List.nodup_cons.1 hn).1 (hmem (by simpa using hi) hdi)).elim
        | succ j => rw [ih hr i j oi oj d (by simpa using hi) (by simpa using hj) hdi hdj]
  exact fun {i j oi oj d} => key all h.nodup i j oi oj d
theorem RegOk.fresh {N all} (h : RegOk N all) {i : Nat} {o : Oper} {d : Nat} (ho : all[i]? = some o) (hd : o.dst = some d) : d ∉ dsts (all.take i) := by
  intro hm
  obtain ⟨j, o', hj, ho', hd'⟩ := mem_dsts_take.1 hm
  have := h.uniq ho ho' hd hd'
  omega
theorem RegOk.guardIn {N all} (h : RegOk N all) {i : Nat} {o : Oper} {j s : Nat} {w : Bool} (ho : all[i]? = some o) (hg : o.guard = some (j, w)) (hs : dstOf all j = some s) : s ∈ dsts (all.take i) := by
  obtain ⟨o', h1, h2⟩ := dstOf_spec hs
  exact mem_dsts_take.2 ⟨j, o', h.before i o ho j w hg, h1, h2⟩
theorem GdIn.mono {D D' : List Nat} {σ : Env} (h : GdIn D σ) (hs : ∀ x ∈ D, x ∈ D') : GdIn D' σ := fun k s w sv hk => hs _ (h k s w sv hk)
theorem take_mono {all : List Oper} {i j : Nat} (h : i ≤ j) : ∀ x ∈ dsts (all.take i), x ∈ dsts (all.take j) := by
  intro x hx
  obtain ⟨k, o, h1, h2, h3⟩ := mem_dsts_take.1 hx
  exact mem_dsts_take.2 ⟨k, o, by omega, h2, h3⟩

theorem Sat.put {B : Base} {e N r β σ Φ a w D} (s : Sat B e N r β σ Φ a w) (hgd : GdIn D σ) {dst : Option Nat} {gd : Option (Nat × Bool)} {sv : SV} {v : Value}
    (hd : ∀ d, dst = some d → d ∉ D ∧ d < N)
    (hv : match gd with | none => Rel r β sv v | some (s, w) => s ∈ D ∧ (a.tmps[s]? = some (.bool w) → Rel r β sv v) ∧ (a.tmps[s]? ≠ some (.bool w) → v = undef)) :
    Sat B e N r β (putE dst gd sv σ) Φ (a.put dst v) w := by
  cases dst with
  | none => exact s
  | some d =>
    obtain ⟨h1, h2⟩ := hd d rfl
    refine ⟨?_, s.mem, s.G, s.kept, s.defers, by rw [put_size]; exact s.size⟩
    refine s.agree.put hgd h1 (by rw [s.size]; exact h2) ?_
    cases gd with
    | none => exact hv
    | some p => exact ⟨fun hq => h1 (hq ▸ hv.1), hv.2⟩

theorem putE_gd {D D' : List Nat} {σ : Env} {dst : Option Nat} (hgd : GdIn D σ) (hs : ∀ x ∈ D, x ∈ D') {gd : Option (Nat × Bool)} {sv : SV} (hg : ∀ s w, gd = some (s, w) → s ∈ D') : GdIn D' (putE dst gd sv σ) := by
  cases dst with
  | none => exact hgd.mono hs
  | some d =>
    intro k s w sv' hk
    have hk : Env.get ((d, gd, sv) :: σ) k = some (some (s, w), sv') := hk
    rw [get_cons] at hk
    cases hb : Nat.beq d k with
    | true =>
      rw [hb] at hk
      simp only [cond_true, Option.some.injEq, Prod.mk.injEq] at hk
      exact hg _ _ hk.1
    | false => rw [hb] at hk; exact hs _ (hgd _ _ _ _ hk)

theorem wanted_guard {all : List Oper} {o : Oper} {j : Nat} {w : Bool} (hg : o.guard = some (j, w)) (t : Array Value) : Region.wanted o (yielded all.toArray t) = (yielded all.toArray t j == some w) := by
  unfold Region.wanted; rw [hg]

theorem beqB_of {a b : Bool} (h : beqB a b = true) : a = b := by cases a <;> cases b <;> simp_all [beqB]
theorem ungL_get {s : Nat} {w : Bool} : ∀ {σ : Env} {k g sv}, Env.get (ungL s w σ) k = some (g, sv) → ∃ g0, Env.get σ k = some (g0, sv) ∧ (g = g0 ∨ (g = none ∧ g0 = some (s, w))) := by
  intro σ
  induction σ with
  | nil => intro k g sv h; cases h
  | cons x r ih =>
    obtain ⟨k0, g0, sv0⟩ := x
    intro k g sv h
    cases g0 with
    | none =>
      simp only [ungL, get_cons] at h ⊢
      cases hb : Nat.beq k0 k with
      | true => rw [hb] at h; simp only [cond_true, Option.some.injEq, Prod.mk.injEq] at h ⊢; obtain ⟨rfl, rfl⟩ := h; exact ⟨none, ⟨rfl, rfl⟩, .inl rfl⟩
      | false => rw [hb] at h; exact ih h
    | some p =>
      obtain ⟨s', w'⟩ := p
      simp only [ungL, get_cons] at h ⊢
      cases hb : Nat.beq k0 k with
      | true =>
        rw [hb] at h
        simp only [cond_true, Option.some.injEq, Prod.mk.injEq] at h ⊢
        obtain ⟨h1, rfl⟩ := h
        refine ⟨some (s', w'), ⟨rfl, rfl⟩, ?_⟩
        cases hc : (Nat.beq s' s && beqB w' w) with
        | true =>
          rw [hc] at h1
          simp only [Bool.and_eq_true] at hc
          exact .inr ⟨h1.symm, by rw [beq_of hc.1, beqB_of hc.2]⟩
        | false => rw [hc] at h1; exact .inl h1.symm
      | false => rw [hb] at h; exact ih h
/-- behind a guard that holds -/
theorem Sat.ung {B : Base} {e N r β σ Φ a w} (st : Sat B e N r β σ Φ a w) {s : Nat} {wv : Bool} (ht : (Act.tmps a)[s]? = some (.bool wv)) : Sat B e N r β (ungE s wv σ) Φ a w := by
  refine ⟨fun k g sv hg => ?_, st.mem, st.G, st.kept, st.defers, st.size⟩
  have hg : Env.get ((s, none, .bool wv) :: ungL s wv σ) k = some (g, sv) := hg
  rw [get_cons] at hg
  cases hb : Nat.beq s k with
  | true =>
    obtain rfl := beq_of hb
    rw [hb] at hg
    simp only [cond_true, Option.some.injEq, Prod.mk.injEq] at hg
    obtain ⟨rfl, rfl⟩ := hg
    exact ⟨_, ht, .bool⟩
  | false =>
    rw [hb] at hg
    obtain ⟨g0, h1, h2⟩ := ungL_get hg
    have := st.agree k g0 sv h1
    rcases h2 with rfl | ⟨rfl, rfl⟩
    · exact this
    · exact this.1 ht
theorem ungE_gd {D : List Nat} {σ : Env} {s : Nat} {wv : Bool} (h : GdIn D σ) : GdIn D (ungE s wv σ) := by
  intro k s' w' sv hg
  have hg : Env.get ((s, none, .bool wv) :: ungL s wv σ) k = some (some (s', w'), sv) := hg
  rw [get_cons] at hg
  cases hb : Nat.beq s k with
  | true => rw [hb] at hg; simp at hg
  | false =>
    rw [hb] at hg
    obtain ⟨g0, h1, h2⟩ := ungL_get hg
    rcases h2 with rfl | ⟨h2, _⟩
    · exact h k s' w' sv h1
    · cases h2
/-- a slot of which the value is known -/
theorem Sat.lit {B : Base} {e N r β σ Φ a w} (st : Sat B e N r β σ Φ a w) {s : Nat} {b : Bool} (ht : (Act.tmps a)[s]? = some (.bool b)) : Sat B e N r β ((s, none, .v (.bool b)) :: σ) Φ a w := by
  refine ⟨fun k g sv hg => ?_, st.mem, st.G, st.kept, st.defers, st.size⟩
  rw [get_cons] at hg
  cases hb : Nat.beq s k with
  | true =>
    obtain rfl := beq_of hb
    rw [hb] at hg
    simp only [cond_true, Option.some.injEq, Prod.mk.injEq] at hg
    obtain ⟨rfl, rfl⟩ := hg
    exact ⟨_, ht, .v⟩
  | false => rw [hb] at hg; exact st.agree k g sv hg
theorem lit_gd {D : List Nat} {σ : Env} {s : Nat} {b : Bool} (h : GdIn D σ) : GdIn D ((s, none, .v (.bool b)) :: σ) := by
  intro k s' w' sv hg
  rw [get_cons] at hg
  cases hb : Nat.beq s k with
  | true => rw [hb] at hg; simp at hg
  | false => rw [hb] at hg; exact h k s' w' sv hg

/-- where the walk of a region stands, ahead of these operations -/
def SeqInv (B : Base) (F : Entry → Prop) (N : Nat) (all : List Oper) (i : Nat) (rest : List Oper) (K : Env → Phi → Nat → Prop) (a : Act) (w : World) : Prop :=
  ∃ e r β σ Φ n, F e ∧ vcOps B all rest σ Φ n K ∧ Sat B e N r β σ Φ a w ∧ GdIn (dsts (all.take i)) σ

/-- the same, with the slots of which guards may be -/
def SeqInvD (B : Base) (F : Entry → Prop) (N : Nat) (all : List Oper) (D : List Nat) (rest : List Oper) (K : Env → Phi → Nat → Prop) (a : Act) (w : World) : Prop :=
  ∃ e r β σ Φ n, F e ∧ vcOps B all rest σ Φ n K ∧ Sat B e N r β σ Φ a w ∧ GdIn D σ
theorem op_stepD {B : Base} {F : Entry → Prop} {N all} (hY : YOk B F N) {K : Env → Phi → Nat → Prop} {o : Oper} {rest : List Oper} {D D' : List Nat} (hd : ∀ d, o.dst = some d → d ∉ D ∧ d < N) (hsub : ∀ d ∈ D, d ∈ D')
    (hin : ∀ j w s, o.guard = some (j, w) → dstOf all j = some s → s ∈ D) {a : Act} {w : World}
    (h : SeqInvD B F N all D (o :: rest) K a w) : (∀ c, o.op ≠ .defer c) ∧ (Region.wanted o (yielded all.toArray a.tmps) = true → OpTo B.P a w o fun v w' => SeqInvD B F N all D' rest K (a.put o.dst v) w') ∧
      (Region.wanted o (yielded all.toArray a.tmps) = false → SeqInvD B F N all D' rest K (a.put o.dst undef) w) := by
  obtain ⟨e, r, β, σ, Φ, n, hF, h, s, hgd⟩ := h
  obtain ⟨dst, op, ty, pos, after, guard⟩ := o
  simp only [vcOps] at h
  split at h
  · obtain ⟨hnd, hop⟩ := vcOp_sound (dst := dst) (ty := ty) (pos := pos) (after := after) (guard := none) hY hF h s
    refine ⟨hnd, fun _ => hop.mono ?_, fun hw => by simp [Region.wanted] at hw⟩
    rintro v w' ⟨e', hF', sv, σ', Φ', n', r', β', hk, hr, s', hD⟩
    exact ⟨e', r', β', _, Φ', n', hF', hk, s'.put (hD _ hgd) hd hr, putE_gd (hD _ hgd) hsub (fun s w h => by cases h)⟩
  · rename_i j wv
    split at h
    · rename_i sl hs
      split at h
      · rename_i c hgs
        have hinS : sl ∈ D := hin j wv sl rfl hs
        obtain ⟨vb, hvb, hrb⟩ := s.agree _ _ _ hgs
        cases hrb
        cases hcw : beqB c wv with
        | true =>
          have hc : c = wv := by cases c <;> cases wv <;> first | rfl | cases hcw
          rw [hcw] at h
          simp only [cond_true] at h
          obtain ⟨hnd, hop⟩ := vcOp_sound (dst := dst) (ty := ty) (pos := pos) (after := after) (guard := some (j, wv)) hY hF h s
          rw [wanted_guard (all := all) (j := j) (w := wv) rfl]
          refine ⟨hnd, fun _ => hop.mono ?_, fun hw => ?_⟩
          · rintro v w' ⟨e', hF', sv, σ', Φ', n', r', β', hk, hr, s', hD⟩
            exact ⟨e', r', β', _, Φ', n', hF', hk, s'.put (hD _ hgd) hd hr, putE_gd (hD _ hgd) hsub (fun s w h => by cases h)⟩
          · rw [(yielded_of hs a.tmps wv).2 (by rw [← hc]; exact hvb)] at hw; cases hw
        | false =>
          have hc : c ≠ wv := fun q => by rw [q] at hcw; cases wv <;> cases hcw
          rw [hcw] at h
          simp only [cond_false] at h
          cases hdf : isDeferC op with
          | true => rw [hdf] at h; exact h.elim
          | false =>
          rw [hdf] at h
          simp only [cond_false] at h
          rw [wanted_guard (all := all) (j := j) (w := wv) rfl]
          refine ⟨?_, fun hw => ?_, fun _ => ⟨e, r, β, _, Φ, n, hF, h, s.put hgd hd .und, putE_gd hgd hsub (fun s w h => by cases h)⟩⟩
          · intro c' hc'; subst hc'; cases hdf
          · have ht := (yielded_of hs a.tmps wv).1 hw
            rw [hvb] at ht
            exact absurd (by simpa using ht) hc
      cases hyc : isYieldC σ op with
      | true =>
        rw [hyc] at h
        simp only [cond_true] at h
        split at h
        · rename_i b hgs
          have hinS : sl ∈ D := hin j wv sl rfl hs
          have hnd : ∀ c, op ≠ .defer c := fun c hc => by subst hc; cases hyc
          obtain ⟨vb, hvb, hrb⟩ := s.agree _ _ _ hgs
          cases hrb
          rw [wanted_guard (all := all) (j := j) (w := wv) rfl]
          refine ⟨hnd, fun hw => ?_, fun hw => ?_⟩
          · have ht := (yielded_of hs a.tmps wv).1 hw
            have hbw : b = wv := by rw [hvb] at ht; simpa using ht
            obtain ⟨_, hop⟩ := vcOp_sound (dst := dst) (ty := ty) (pos := pos) (after := after) (guard := some (j, wv)) hY hF (h.1 hbw) (s.ung ht)
            refine hop.mono ?_
            rintro v w' ⟨e', hF', sv, σ', Φ', n', r', β', hk, hr, s', hD⟩
            exact ⟨e', r', β', _, Φ', n', hF', hk, s'.put (hD _ (ungE_gd hgd)) hd hr, putE_gd (hD _ (ungE_gd hgd)) hsub (fun s w h => by cases h)⟩
          · have ht : a.tmps[sl]? ≠ some (.bool wv) := fun ht => by rw [(yielded_of hs a.tmps wv).2 ht] at hw; cases hw
            have hbw : b = !wv := by
              rw [hvb] at ht
              cases b <;> cases wv <;> simp_all
            have hvb' : a.tmps[sl]? = some (.bool (!wv)) := by rw [← hbw]; exact hvb
            exact ⟨e, r, β, _, Φ, n, hF, h.2 hbw, (s.lit hvb').put (lit_gd hgd) hd .und, putE_gd (lit_gd hgd) hsub (fun s w h => by cases h)⟩
        · exact h.elim
      | false =>
      rw [hyc] at h
      simp only [cond_false] at h
      obtain ⟨ctx, g, h, hsm⟩ := ctxK_sound h
      obtain ⟨sv, hk, hnd, hop⟩ := evK_sound h (fun hq => by cases hq)
      have hinS : sl ∈ D := hin j wv sl rfl hs
      have hgd' : GdIn (D') (putE dst (some (sl, wv)) sv σ) := putE_gd hgd hsub (fun s w h => by cases h; exact hsub _ hinS)
      rw [wanted_guard (all := all) (j := j) (w := wv) rfl]
      refine ⟨hnd, fun hw => ?_, fun hw => ?_⟩
      · have ht := (yielded_of hs a.tmps wv).1 hw
        refine (hop (fun _ => True) r β a w (fun _ _ => hasT _) (hsm _ r β a.tmps (fun _ _ _ _ _ _ => trivial) trivial (s.agree.P _) ht) s.G s.mem dst ty pos after _).mono ?_
        rintro v w' ⟨r', hr, hle, m', hid⟩
        refine ⟨e, r', β, _, Φ, n, hF, hk, ?_, hgd'⟩
        have s' := s.step (s.agree.of fun k g sv hk => ⟨sv, hk, fun v hr => hr.mono hle⟩) m' hle hid
        exact s'.put hgd hd ⟨hinS, fun _ => hr, fun h => (h ht).elim⟩
      · have ht : a.tmps[sl]? ≠ some (.bool wv) := fun ht => by rw [(yielded_of hs a.tmps wv).2 ht] at hw; cases hw
        exact ⟨e, r, β, _, Φ, n, hF, hk, s.put hgd hd ⟨hinS, fun h => (ht h).elim, fun _ => rfl⟩, hgd'⟩
    · exact h.elim
/-- one operation, in its turn -/
theorem op_stepTo {B : Base} {F : Entry → Prop} {N all} (hY : YOk B F N) (ok : RegOk N all) {K : Env → Phi → Nat → Prop} {i : Nat} {o : Oper} {rest : List Oper} (ho : all[i]? = some o) {a : Act} {w : World}
    (h : SeqInv B F N all i (o :: rest) K a w) : (∀ c, o.op ≠ .defer c) ∧ (Region.wanted o (yielded all.toArray a.tmps) = true → OpTo B.P a w o fun v w' => SeqInv B F N all (i + 1) rest K (a.put o.dst v) w') ∧
      (Region.wanted o (yielded all.toArray a.tmps) = false → SeqInv B F N all (i + 1) rest K (a.put o.dst undef) w) :=
  op_stepD (D := dsts (all.take i)) (D' := dsts (all.take (i + 1))) hY (fun d hd => ⟨ok.fresh ho hd, ok.lt o (List.mem_of_getElem? ho) d hd⟩) (take_mono (Nat.le_succ i)) (fun j w s h1 h2 => ok.guardIn ho h1 h2) h
theorem op_step {B : Base} {F : Entry → Prop} {N all} (hY : YOk B F N) (ok : RegOk N all) {ro : Option Nat} {Q : Exit → Act → World → Prop} {K : Env → Phi → Nat → Prop} {i : Nat} {o : Oper} {rest : List Oper} (ho : all[i]? = some o) {a : Act} {w : World}
    (h : SeqInv B F N all i (o :: rest) K a w) : wpOpIn (fc ro) 0 B.P all.toArray Q i (SeqInv B F N all (i + 1) rest K) a w := by
  obtain ⟨h1, h2, h3⟩ := op_stepTo hY ok ho h
  unfold wpOpIn
  simp only [List.getElem?_toArray, ho]
  cases hw : Region.wanted o (yielded all.toArray a.tmps) with
  | true => rw [if_pos rfl]; exact (h2 hw).wpIn h1 fun _ _ h => h
  | false => rw [if_neg (by simp)]; exact ⟨fun _ _ => trivial, h3 hw⟩

theorem vcOps_sound {B : Base} {F : Entry → Prop} {N all} (hY : YOk B F N) (ok : RegOk N all) {ro : Option Nat} {K : Env → Phi → Nat → Prop} {Q : Exit → Act → World → Prop}
    (hQ : ∀ e r β σ Φ n a w, F e → K σ Φ n → Sat B e N r β σ Φ a w → Q .normal a w) :
    ∀ (l pre : List Oper), all = pre ++ l → ∀ a w, SeqInv B F N all pre.length l K a w → wpOpsIn (fc ro) 0 B.P all.toArray Q (List.range' pre.length l.length) a w := by
  intro l
  induction l with
  | nil => intro pre he a w ⟨e, r, β, σ, Φ, n, hF, h, s, _⟩; exact hQ _ _ _ _ _ _ _ _ hF h s
  | cons o rest ih =>
    intro pre he a w h
    have ho : all[pre.length]? = some o := by rw [he]; simp
    rw [List.length_cons, List.range'_succ, wpOpsIn_cons]
    refine wpOpIn_mono (fun a' w' h' => ?_) (op_step hY ok ho h)
    have := ih (pre ++ [o]) (by rw [he]; simp) a' w' (by simpa using h')
    simpa using this

theorem region_seq {B : Base} {F : Entry → Prop} {e N all} (hY : YOk B F N) (hF : F e) (ok : RegOk N all) {ro : Option Nat} {K : Env → Phi → Nat → Prop} {Q : Exit → Act → World → Prop} {id : Nat}
    (hQ : ∀ e r β σ Φ n a w, F e → K σ Φ n → Sat B e N r β σ Φ a w → Q .normal a w) {r β σ Φ n a w} (h : vcOps B all all σ Φ n K) (s : Sat B e N r β σ Φ a w) (hgd : GdIn [] σ) :
    (Code.region id all.toArray false).wpIn (fc ro) 0 B.P Q a w := by
  refine wpIn_region ?_
  have := vcOps_sound hY ok (ro := ro) hQ all [] rfl a w ⟨e, r, β, σ, Φ, n, hF, h, s, by simpa [dsts] using hgd⟩
  simpa [List.range_eq_range'] using this
end Go.Vc

namespace Go.Vc
set_option autoImplicit false
set_option linter.unusedVariables false

/-! A region that draws its order, by an invariant over the set of what has been carried out. -/

def isDone (listed : Array Bool) (i : Nat) : Prop := listed.getD i false = true

/-- What the boolean 'lexB' says of a region. -/
structure LexOk (md : Region.Mode) (ops : Array Oper) : Prop where
  back : ∀ (i : Nat) (o : Oper), ops[i]? = some o → ∀ e ∈ o.after, Region.binds md e = true → e.on < i
  apart : ∀ (k j : Nat) (ok oj : Oper), ops[k]? = some ok → ops[j]? = some oj → k < j → (∃ e ∈ oj.after, Region.binds md e = true ∧ e.on = k) ∨ ok.apart ops oj = true

theorem lexFrom_at {md : Region.Mode} {ops : Array Oper} : ∀ (fuel k : Nat) (L : Array Bool), Region.lexFrom md ops fuel k L = true → ∀ i, i < fuel →
    ∃ L' : Array Bool, L'.size = L.size ∧ (∀ t, (k ≤ t ∧ t < k + i → t < L.size → L'[t]? = some true) ∧ (¬ (k ≤ t ∧ t < k + i) → L'[t]? = L[t]?)) ∧
      (k + i) ∈ Region.ready md ops L' ∧ Region.free md ops L' (k + i) = true := by
  intro fuel
  induction fuel with
  | zero => intro k L h i hi; omega
  | succ fuel ih =>
    intro k L h i hi
    simp only [Region.lexFrom, Bool.and_eq_true] at h
    obtain ⟨⟨h1, h2⟩, h3⟩ := h
    cases i with
    | zero => exact ⟨L, rfl, fun t => ⟨fun ht => by omega, fun _ => rfl⟩, by simpa using h1, by simpa using h2⟩
    | succ i =>
      obtain ⟨L', hs, ht, hr, hf⟩ := ih (k + 1) _ h3 i (by omega)
      refine ⟨L', by rw [hs]; simp, fun t => ⟨fun hk hlt => ?_, fun hk => ?_⟩, by rw [show k + (i + 1) = k + 1 + i by omega]; exact hr, by rw [show k + (i + 1) = k + 1 + i by omega]; exact hf⟩
      · by_cases he : t = k
        · subst he
          rw [(ht t).2 (by omega)]
          simp [hlt]
        · exact (ht t).1 (by omega) (by simpa using hlt)
      · rw [(ht t).2 (by omega)]
        rw [Array.getElem?_setIfInBounds_ne (by omega)]

theorem lexOk_of {md : Region.Mode} {ops : Array Oper} (h : Region.lexB md ops = true) : LexOk md ops := by
  simp only [Region.lexB, Bool.and_eq_true] at h
  have at' : ∀ i, i < ops.size → ∃ L' : Array Bool, L'.size = ops.size ∧ (∀ t, t < ops.size → L'[t]? = some (decide (t < i))) ∧ i ∈ Region.ready md ops L' ∧ Region.free md ops L' i = true := by
    intro i hi
    obtain ⟨L', hs, ht, hr, hf⟩ := lexFrom_at ops.size 0 _ h.2 i hi
    refine ⟨L', by simpa using hs, fun t hlt => ?_, by simpa using hr, by simpa using hf⟩
    by_cases hti : t < i
    · rw [(ht t).1 (by omega) (by simpa using hlt)]; simp [hti]
    · rw [(ht t).2 (by omega)]; simp [hti, hlt]
  refine ⟨fun i o ho e he hb => ?_, fun k j ok oj hk hj hkj => ?_⟩
  · have hi : i < ops.size := (Array.getElem?_eq_some_iff.1 ho).1
    obtain ⟨L', hs, ht, hr, _⟩ := at' i hi
    obtain ⟨_, o', ho', hall⟩ := mem_ready.1 hr
    rw [ho] at ho'; cases ho'
    have := hall e he hb
    rcases Nat.lt_or_ge e.on ops.size with hlt | hge
    · have h1 := ht e.on hlt
      rw [Array.getD_eq_getD_getElem?, h1] at this
      simpa using this
    · rw [Array.getD_eq_getD_getElem?, Array.getElem?_eq_none (by omega)] at this
      cases this
  · have hkl : k < ops.size := (Array.getElem?_eq_some_iff.1 hk).1
    have hjl : j < ops.size := (Array.getElem?_eq_some_iff.1 hj).1
    obtain ⟨L', hs, ht, _, hf⟩ := at' k hkl
    by_cases hc : ∃ e ∈ oj.after, Region.binds md e = true ∧ e.on = k
    · exact .inl hc
    · refine .inr (Region.free_spec hk hf j oj hj (by omega) ?_ fun e he hb heq => hc ⟨e, he, hb, heq⟩)
      rw [Array.getD_eq_getD_getElem?, ht j hjl]
      simp; omega

theorem filter_erase {p p' : Nat → Bool} {i : Nat} (h : ∀ j, p' j = (p j && !(j == i))) : ∀ {l : List Nat}, l.Nodup → i ∈ l → p i = true → (l.filter p').length + 1 = (l.filter p).length := by
  intro l
  induction l with
  | nil => intro _ hi; cases hi
  | cons x l ih =>
    intro hn hi hp
    simp only [List.nodup_cons] at hn
    by_cases hx : x = i
    · subst hx
      have e : l.filter p' = l.filter p := by
        apply List.filter_congr
        intro y hy
        rw [h]
        have : y ≠ x := by rintro rfl; exact hn.1 hy
        simp [this]
      have hp' : p' x = false := by rw [h]; simp
      rw [List.filter_cons, List.filter_cons, hp, hp']
      simp [e]
    · have hi' : i ∈ l := by
        cases hi with
        | head => exact absurd rfl hx
        | tail _ hi => exact hi
      have := ih hn.2 hi' hp
      have e : p' x = p x := by rw [h]; simp [hx]
      rw [List.filter_cons, List.filter_cons, e]
      split
      · simp only [List.length_cons]; omega
      · exact this

/-- every order, by an invariant over what has been done -/
theorem wpAnyIn_inv {F : Fence} {n : Nat} {P : Program} {md : Region.Mode} {ops : Array Oper} {Q : Exit → Act → World → Prop} (ok : LexOk md ops) {I : (Nat → Prop) → Act → World → Prop}
    (hstep : ∀ (S : Nat → Prop) (i : Nat) (o : Oper) (a : Act) (w : World), (∀ j, S j → j < ops.size) → (∀ (j : Nat) (oj : Oper), S j → ops[j]? = some oj → ∀ e ∈ oj.after, Region.binds md e = true → S e.on) → ops[i]? = some o → ¬ S i →
      (∀ e ∈ o.after, Region.binds md e = true → S e.on) → I S a w → wpOpIn F n P ops Q i (I fun j => S j ∨ j = i) a w)
    (hend : ∀ S a w, (∀ i, i < ops.size → S i) → I S a w → Q .normal a w) :
    ∀ (fuel : Nat) (listed : Array Bool) (a : Act) (w : World), listed.size = ops.size → ((List.range ops.size).filter fun i => !listed.getD i false).length ≤ fuel →
      (∀ (j : Nat) (oj : Oper), isDone listed j → ops[j]? = some oj → ∀ e ∈ oj.after, Region.binds md e = true → isDone listed e.on) → I (isDone listed) a w → wpAnyIn F n P md ops Q fuel listed a w := by
  have all_of_ready : ∀ (listed : Array Bool), listed.size = ops.size → Region.ready md ops listed = [] → ∀ i, i < ops.size → isDone listed i := by
    intro listed hs hr i
    induction i using Nat.strongRecOn with
    | _ i ih =>
      intro hi
      by_cases hd : isDone listed i
      · exact hd
      · exfalso
        have : i ∈ Region.ready md ops listed := by
          refine mem_ready.2 ⟨?_, ops[i], Array.getElem?_eq_getElem hi, fun e he hb => ?_⟩
          · have hlt : i < listed.size := by omega
            unfold isDone at hd
            rw [Array.getD_eq_getD_getElem?, Array.getElem?_eq_getElem hlt] at hd ⊢
            simpa using hd
          · have hlt := ok.back i _ (Array.getElem?_eq_getElem hi) e he hb
            exact ih e.on hlt (by omega)
        rw [hr] at this; cases this
  intro fuel
  induction fuel with
  | zero =>
    intro listed a w hs hl hcl hI
    have hnil : (List.range ops.size).filter (fun i => !listed.getD i false) = [] := List.length_eq_zero_iff.1 (by omega)
    have hall : ∀ i, i < ops.size → isDone listed i := by
      intro i hi
      rw [List.filter_eq_nil_iff] at hnil
      have := hnil i (by simpa using hi)
      unfold isDone
      simpa using this
    refine ⟨?_, hend _ a w hall hI⟩
    cases hr : Region.ready md ops listed with
    | nil => rfl
    | cons x xs =>
      have hx : x ∈ Region.ready md ops listed := by rw [hr]; simp
      obtain ⟨h0, o, ho, _⟩ := mem_ready.1 hx
      have hlt := (Array.getElem?_eq_some_iff.1 ho).1
      have := hall x hlt
      unfold isDone at this
      rw [Array.getD_eq_getD_getElem?, Array.getElem?_eq_getElem (by omega)] at this h0
      simp at this h0
      rw [this] at h0; cases h0
  | succ fuel ih =>
    intro listed a w hs hl hcl hI
    refine ⟨fun hr => hend _ a w (all_of_ready listed hs hr) hI, fun i hi => ?_⟩
    obtain ⟨h0, o, ho, hall⟩ := mem_ready.1 hi
    have hlt := (Array.getElem?_eq_some_iff.1 ho).1
    have hnd : ¬ isDone listed i := by
      unfold isDone
      rw [Array.getD_eq_getD_getElem?, Array.getElem?_eq_getElem (by omega)] at h0 ⊢
      simp at h0 ⊢; exact h0
    have hset : isDone (listed.setIfInBounds i true) = fun j => isDone listed j ∨ j = i := by
      funext j
      apply propext
      unfold isDone
      by_cases hj : j = i
      · subst hj
        simp [Array.getD_eq_getD_getElem?, show j < listed.size by omega]
      · rw [getD_set_ne false (fun h => hj h.symm)]
        simp [hj]
    refine wpOpIn_mono (fun a' w' hI' => ?_) (hstep (isDone listed) i o a w (fun j hj => ?_) hcl ho hnd (fun e he hb => hall e he hb) hI)
    · refine ih _ a' w' (by simpa using hs) ?_ ?_ (by rw [hset]; exact hI')
      · have := filter_erase (p := fun i => !listed.getD i false) (p' := fun j => !(listed.setIfInBounds i true).getD j false) (i := i) (fun j => by
          by_cases hj : j = i
          · subst hj
            simp [Array.getD_eq_getD_getElem?, show j < listed.size by omega]
          · rw [getD_set_ne false (fun h => hj h.symm)]
            simp [hj]) List.nodup_range (by simpa using hlt) (by unfold isDone at hnd; simpa using hnd)
        omega
      · rw [hset]
        intro j oj hj hoj e he hb
        rcases hj with hj | rfl
        · exact .inl (hcl j oj hj hoj e he hb)
        · rw [ho] at hoj; cases hoj
          exact .inl (hall e he hb)
    · unfold isDone at hj
      rcases Nat.lt_or_ge j ops.size with h | h
      · exact h
      · rw [Array.getD_eq_getD_getElem?, Array.getElem?_eq_none (by omega)] at hj; cases hj

theorem wpIn_region_inv {F : Fence} {n : Nat} {P : Program} {ops : Array Oper} {Q : Exit → Act → World → Prop} (ok : LexOk .any ops) {I : (Nat → Prop) → Act → World → Prop} {id : Nat} {a : Act} {w : World} (hm : P.follows .mixedOrders = true)
    (hstep : ∀ (S : Nat → Prop) (i : Nat) (o : Oper) (a : Act) (w : World), (∀ j, S j → j < ops.size) → (∀ (j : Nat) (oj : Oper), S j → ops[j]? = some oj → ∀ e ∈ oj.after, Region.binds .any e = true → S e.on) → ops[i]? = some o → ¬ S i →
      (∀ e ∈ o.after, Region.binds .any e = true → S e.on) → I S a w → wpOpIn F n P ops Q i (I fun j => S j ∨ j = i) a w)
    (hend : ∀ S a w, (∀ i, i < ops.size → S i) → I S a w → Q .normal a w)
    (h0 : ∀ S : Nat → Prop, (∀ i, ¬ S i) → I S a { w with drawn := w.drawn + 1 }) : (Code.region id ops true).wpIn F n P Q a w := by
  refine wpIn_region_any hm (wpAnyIn_inv ok hstep hend _ _ _ _ (by simp) ?_ ?_ ?_)
  · have := List.length_filter_le (fun i => !(Array.replicate ops.size false).getD i false) (List.range ops.size)
    simpa using this
  · intro j oj hj
    unfold isDone at hj
    rw [Array.getD_eq_getD_getElem?, Array.getElem?_replicate] at hj
    split at hj <;> simp at hj
  · refine h0 _ fun i hi => ?_
    unfold isDone at hi
    rw [Array.getD_eq_getD_getElem?, Array.getElem?_replicate] at hi
    split at hi <;> simp at hi
end Go.Vc

namespace Go.Vc
set_option autoImplicit false
set_option linter.unusedVariables false
set_option linter.unusedSimpArgs false

/-! What a plan says. -/
theorem noneReads_spec {A : Array Oper} {d : Nat} {l : List Oper} (h : noneReads A d l = true) : ∀ o ∈ l, d ∉ o.looksAt A := by
  induction l with
  | nil => intro o ho; cases ho
  | cons x r ih =>
    simp only [noneReads, Bool.and_eq_true, Bool.not_eq_true'] at h
    intro o ho
    cases ho with
    | head => intro hm; rw [memN_iff.2 hm] at h; exact absurd h.1 (by simp)
    | tail _ ho => exact ih h.2 o ho
theorem noneWrites_spec {ts : List Nat} : ∀ {ps : List Nat} {ops : List Oper}, noneWrites ts ps ops = true → ∀ (j p : Nat) (o : Oper) (d : Nat), ps[j]? = some p → ops[j]? = some o → o.dst = some d → d ∈ ts → p = 0 := by
  intro ps
  induction ps with
  | nil => intro ops _ j p o d h; simp at h
  | cons p0 ps ih =>
    intro ops h j p o d hp ho hd hm
    cases ops with
    | nil => simp at ho
    | cons o0 ops =>
      simp only [noneWrites, Bool.and_eq_true] at h
      cases j with
      | zero =>
        simp at hp ho; subst hp; subst ho
        have h1 := h.1
        rw [hd] at h1
        simp only [Bool.or_eq_true, Bool.not_eq_true'] at h1
        rcases h1 with h1 | h1
        · exact beq_of h1
        · rw [memN_iff.2 hm] at h1; cases h1
      | succ j => exact ih h.2 j p o d (by simpa using hp) (by simpa using ho) hd hm
theorem cloOf_inv {all : List Oper} {Q : Nat → Prop} (hQ : ∀ (x : Nat) (o : Oper), Q x → all[x]? = some o → ∀ e ∈ o.after, Region.binds .any e = true → Q e.on) :
    ∀ (f : Nat) (todo acc : List Nat), (∀ x ∈ todo, Q x) → (∀ x ∈ acc, Q x) → ∀ x ∈ cloOf all f todo acc, Q x := by
  intro f
  induction f with
  | zero => intro todo acc _ h x hx; exact h x hx
  | succ f ih =>
    intro todo acc ht ha x hx
    cases todo with
    | nil => exact ha x hx
    | cons i todo =>
      simp only [cloOf] at hx
      have hi := ht i (by simp)
      cases hb : memN i acc with
      | true => rw [hb] at hx; exact ih todo acc (fun y hy => ht y (by simp [hy])) ha x hx
      | false =>
        rw [hb] at hx
        refine ih _ _ (fun y hy => ?_) (fun y hy => ?_) x hx
        · rw [List.mem_append] at hy
          rcases hy with hy | hy
          · rw [nth_eq] at hy
            split at hy
            · rename_i o ho
              obtain ⟨e, he, heq⟩ := List.mem_filterMap.1 hy
              cases hbe : Region.binds .any e with
              | false => rw [hbe] at heq; cases heq
              | true => rw [hbe] at heq; cases heq; exact hQ i o hi ho e (by simpa using he) hbe
            · cases hy
          · exact ht y (by simp [hy])
        · cases hy with
          | head => exact hi
          | tail _ hy => exact ha y hy
theorem coversB_spec {clo : List Nat} : ∀ {ps : List Nat} {k : Nat}, coversB clo k ps = true → ∀ (j p : Nat), ps[j]? = some p → p ≠ 0 → (k + j) ∈ clo := by
  intro ps
  induction ps with
  | nil => intro k _ j p h; simp at h
  | cons p0 ps ih =>
    intro k h j p hp hne
    simp only [coversB, Bool.and_eq_true, Bool.or_eq_true] at h
    cases j with
    | zero =>
      simp at hp; subst hp
      rcases h.1 with h1 | h1
      · exact absurd (beq_of h1) hne
      · exact memN_iff.1 h1
    | succ j =>
      have := ih h.2 j p (by simpa using hp) hne
      rw [show k + (j + 1) = k + 1 + j by omega]; exact this
theorem noThree_spec {l : List Nat} (h : planOkFrom.noThree l = true) : ∀ x ∈ l, x ≠ 3 := by
  induction l with
  | nil => intro x hx; cases hx
  | cons y r ih =>
    simp only [planOkFrom.noThree, Bool.and_eq_true, Bool.not_eq_true'] at h
    intro x hx
    cases hx with
    | head => rintro rfl; rw [Nat.beq_refl] at h; cases h.1
    | tail _ hx => exact ih h.2 x hx

inductive PlanAt (all : List Oper) (plan : List Nat) (i : Nat) (o : Oper) : Prop
  | t (d : Nat) (hp : plan[i]? = some 0) (hf : floats o.op = true) (hg : o.guard = none) (hd : o.dst = some d) (hr : ∀ (j : Nat) (oj : Oper), j ≤ i → all[j]? = some oj → d ∉ oj.looksAt all.toArray)
      (hw : ∀ (j : Nat) (oj : Oper) (d' : Nat), j < i → plan[j]? ≠ some 0 → all[j]? = some oj → oj.dst = some d' → .tmp d' ∉ o.op.operands.toList)
  | q (hp : plan[i]? = some 1) (h3 : ∀ (j : Nat), j < i → plan[j]? ≠ some 3)
  | f (d : Nat) (hp : plan[i]? = some 2) (h3 : ∀ (j : Nat), j < i → plan[j]? ≠ some 3) (hg : o.guard = none) (hd : o.dst = some d) (hr : ∀ (j : Nat) (oj : Oper), all[j]? = some oj → plan[j]? ≠ some 3 → d ∉ oj.looksAt all.toArray)
  | s (hp : plan[i]? = some 3) (hc : ∀ Q : Nat → Prop, (∀ (x : Nat) (o : Oper), Q x → all[x]? = some o → ∀ e ∈ o.after, Region.binds .any e = true → Q e.on) → Q i → ∀ (j : Nat), j < i → plan[j]? ≠ some 0 → Q j)

theorem opTmpsB_mem {t : Nat} {l : List Operand} : t ∈ opTmpsB l ↔ Operand.tmp t ∈ l := by
  induction l with
  | nil => simp [opTmpsB]
  | cons x r ih =>
    cases x <;> simp [opTmpsB, ih]

theorem planOk_spec {all : List Oper} {plan : List Nat} (h : planOk all plan = true) : plan.length = all.length ∧ ∀ (i : Nat) (o : Oper), all[i]? = some o → PlanAt all plan i o := by
  have key : ∀ (ps : List Nat) (ops : List Oper) (k : Nat), planOkFrom all plan k ps ops = true → ps.length = ops.length ∧ ∀ (i : Nat) (o : Oper) (p : Nat), ops[i]? = some o → ps[i]? = some p →
      (match p with
       | 0 => floats o.op && ((match o.guard with | none => true | some _ => false) && ((match o.dst with | some d => noneReads all.toArray d (all.take (k + i + 1)) | none => false) && noneWrites (opTmpsB o.op.operands.toList) (plan.take (k + i)) (all.take (k + i))))
       | 1 => planOkFrom.noThree (plan.take (k + i))
       | 2 => planOkFrom.noThree (plan.take (k + i)) && ((match o.guard with | none => true | some _ => false) && (match o.dst with | some d => noneReads all.toArray d ((plan.zip all).filterMap fun x => bif Nat.beq x.1 3 then none else some x.2) | none => false))
       | 3 => coversB (cloOf all (all.length * all.length + all.length + 2) [k + i] []) 0 (plan.take (k + i))
       | _ => false) = true := by
    intro ps
    induction ps with
    | nil =>
      intro ops k h
      cases ops with
      | nil => exact ⟨rfl, fun i o p h => by simp at h⟩
      | cons => cases h
    | cons p0 ps ih =>
      intro ops k h
      cases ops with
      | nil => cases h
      | cons o0 ops =>
        simp only [planOkFrom, Bool.and_eq_true] at h
        obtain ⟨h1, h2⟩ := h
        obtain ⟨g1, g2⟩ := ih ops (k + 1) h2
        refine ⟨by simp [g1], fun i o p ho hp => ?_⟩
        cases i with
        | zero => simp at ho hp; subst ho; subst hp; exact h1
        | succ i =>
          have := g2 i o p (by simpa using ho) (by simpa using hp)
          rw [show k + (i + 1) = k + 1 + i by omega]; exact this
  obtain ⟨hl, hk⟩ := key plan all 0 h
  refine ⟨hl, fun i o ho => ?_⟩
  have hi : i < plan.length := by have := lt_len ho; omega
  have hp : plan[i]? = some plan[i] := List.getElem?_eq_getElem hi
  have := hk i o _ ho hp
  simp only [Nat.zero_add] at this
  have take3 : ∀ {j : Nat}, planOkFrom.noThree (plan.take i) = true → j < i → plan[j]? ≠ some 3 := by
    intro j hn hj hq
    exact noThree_spec hn 3 (List.mem_of_getElem? (i := j) (by rw [List.getElem?_take, if_pos hj]; exact hq)) rfl
  split at this
  · rename_i he
    simp only [Bool.and_eq_true] at this
    obtain ⟨h1, h2, h3, h4⟩ := this
    cases hd : o.dst with
    | none => rw [hd] at h3; cases h3
    | some d =>
      rw [hd] at h3
      refine .t d (he ▸ hp) h1 ?_ hd (fun j oj hj hoj => ?_) (fun j oj d' hj hpj hoj hdj hm => ?_)
      · cases hg : o.guard with
        | none => rfl
        | some _ => rw [hg] at h2; cases h2
      · exact noneReads_spec h3 oj (List.mem_of_getElem? (i := j) (by rw [List.getElem?_take, if_pos (by omega)]; exact hoj))
      · have hjl : j < plan.length := by omega
        refine hpj ?_
        have := noneWrites_spec h4 j plan[j] oj d' (by rw [List.getElem?_take, if_pos hj]; exact List.getElem?_eq_getElem hjl) (by rw [List.getElem?_take, if_pos hj]; exact hoj) hdj (opTmpsB_mem.2 hm)
        rw [List.getElem?_eq_getElem hjl, this]
  · rename_i he; exact .q (he ▸ hp) (fun j hj => take3 this hj)
  · rename_i he
    simp only [Bool.and_eq_true] at this
    obtain ⟨h1, h2, h3⟩ := this
    cases hd : o.dst with
    | none => rw [hd] at h3; cases h3
    | some d =>
      rw [hd] at h3
      refine .f d (he ▸ hp) (fun j hj => take3 h1 hj) ?_ hd (fun j oj hoj hpj => ?_)
      · cases hg : o.guard with
        | none => rfl
        | some _ => rw [hg] at h2; cases h2
      · have hjl : j < plan.length := by have := lt_len hoj; omega
        refine noneReads_spec h3 oj (List.mem_filterMap.2 ⟨(plan[j], oj), List.mem_of_getElem? (i := j) (by rw [List.getElem?_zip_eq_some]; exact ⟨List.getElem?_eq_getElem hjl, hoj⟩), ?_⟩)
        have : Nat.beq plan[j] 3 = false := nbeq_of (fun h => hpj (by rw [List.getElem?_eq_getElem hjl, h]))
        simp only [this]; rfl
  · rename_i he
    refine .s (he ▸ hp) fun Q hQ hQi j hj hpj => ?_
    have hjl : j < plan.length := by omega
    have hm := coversB_spec this j plan[j] (by rw [List.getElem?_take, if_pos hj]; exact List.getElem?_eq_getElem hjl) (fun h => hpj (by rw [List.getElem?_eq_getElem hjl, h]))
    rw [Nat.zero_add] at hm
    exact cloOf_inv hQ _ [i] [] (fun x hx => by simp at hx; rw [hx]; exact hQi) (fun x hx => by cases hx) j hm
  · cases this
end Go.Vc

namespace Go.Vc
set_option autoImplicit false
set_option linter.unusedVariables false
set_option linter.unusedSimpArgs false

def NoGd (σ : Env) : Prop := ∀ k g sv, Env.get σ k = some (g, sv) → g = none
theorem NoGd.gdIn {σ : Env} (h : NoGd σ) (D : List Nat) : GdIn D σ := fun k s w sv hg => by cases h _ _ _ hg
theorem NoGd.put {σ : Env} (h : NoGd σ) (d : Nat) (sv : SV) : NoGd ((d, none, sv) :: σ) := by
  intro k g sv' hk
  rw [get_cons] at hk
  cases hb : Nat.beq d k with
  | true => rw [hb] at hk; simp at hk; exact hk.1.symm
  | false => rw [hb] at hk; exact h k g sv' hk

theorem put_ne {a : Act} {d t : Nat} {v : Value} (h : t ≠ d) : (a.put (some d) v).tmps[t]? = a.tmps[t]? := by
  rw [put_some]; exact Array.getElem?_setIfInBounds_ne (Ne.symm h)
theorem put_eq {a : Act} {d : Nat} {v : Value} (h : d < a.tmps.size) : (a.put (some d) v).tmps[d]? = some v := by
  rw [put_some]; exact Array.getElem?_setIfInBounds_self_of_lt h

theorem floats_nosel {op : Op} (h : floats op = true) : ∀ cs b, op ≠ .select cs b := fun cs b hc => by subst hc; cases h
theorem floats_nodef {op : Op} (h : floats op = true) : ∀ c, op ≠ .defer c := fun c hc => by subst hc; cases h

/-- those of plan 0 below k hold what they yield, in whatever world -/
def TInv (P : Program) (all : List Oper) (plan : List Nat) (k : Nat) (b : Act) : Prop :=
  ∀ (i : Nat) (o : Oper) (d : Nat), i < k → plan[i]? = some 0 → all[i]? = some o → o.dst = some d → ∃ v, b.tmps[d]? = some v ∧ ∀ w, (execOp b.eval o).run P w = .ok (.value v) w

theorem vcT_sound {B : Base} {N : Nat} {all : List Oper} {plan : List Nat} (ok : RegOk N all) (hlen : plan.length = all.length) (hpl : ∀ (i : Nat) (o : Oper), all[i]? = some o → plan[i]? = some 0 → PlanAt all plan i o) {r : Mem} {β : Bind} {Φ : Phi} {K : Env → Prop} :
    ∀ (l : List Oper) (k : Nat) (σ : Env) (b : Act), k + l.length = all.length → l = all.drop k → vcT B (plan.drop k) l σ Φ K → Agree r β σ b.tmps → NoGd σ → b.tmps.size = N → TInv B.P all plan k b →
      ∃ σT bT, K σT ∧ Agree r β σT bT.tmps ∧ NoGd σT ∧ bT.tmps.size = N ∧ bT.defers = b.defers ∧ TInv B.P all plan all.length bT ∧
        ∀ t, (∀ (j : Nat) (oj : Oper), k ≤ j → plan[j]? = some 0 → all[j]? = some oj → oj.dst ≠ some t) → bT.tmps[t]? = b.tmps[t]? ∧ Env.get σT t = Env.get σ t := by
  intro l
  induction l with
  | nil =>
    intro k σ b hk he h ha hng hsz hT
    have : vcT B (plan.drop k) [] σ Φ K = K σ := by
      cases plan.drop k with
      | nil => rfl
      | cons x r => cases x <;> rfl
    rw [this] at h
    exact ⟨σ, b, h, ha, hng, hsz, rfl, by rw [← hk]; simpa using hT, fun t _ => ⟨rfl, rfl⟩⟩
  | cons o l ih =>
    intro k σ b hk he h ha hng hsz hT
    have hkl : k < all.length := by simp at hk; omega
    have ho : all[k]? = some o := by
      have : (all.drop k)[0]? = some o := by rw [← he]; rfl
      simpa using this
    have hl : l = all.drop (k + 1) := by
      have := congrArg List.tail he
      simpa using this
    have hkp : k < plan.length := by omega
    have hp : plan[k]? = some plan[k] := List.getElem?_eq_getElem hkp
    have hpd : plan.drop k = plan[k] :: plan.drop (k + 1) := List.drop_eq_getElem_cons hkp
    rw [hpd] at h
    by_cases h0 : plan[k] = 0
    · rw [h0] at h hp
      obtain ⟨dst, op, ty, pos, after, guard⟩ := o
      have h : evK B Φ σ [] (fun p => p) false op fun sv => vcT B (plan.drop (k + 1)) l (putE dst none sv σ) Φ K := h
      cases hpl k _ ho hp with
      | q hq => rw [hp] at hq; cases hq
      | f _ hq => rw [hp] at hq; cases hq
      | s hq => rw [hp] at hq; cases hq
      | t d _ hf hg hd hr hw =>
        have hd : dst = some d := hd
        subst hd
        obtain ⟨sv, h, hv⟩ := evK_float hf h
        obtain ⟨v, hrel, hrun⟩ := hv _ r β b (fun _ _ => hasT _) (Sm.plain ha) (some d) ty pos after guard
        have hdN : d < N := ok.lt _ (List.mem_of_getElem? ho) d rfl
        have ha' : Agree r β ((d, none, sv) :: σ) (b.put (some d) v).tmps := ha.put (hng.gdIn []) (by simp) (by rw [hsz]; exact hdN) hrel
        have hT' : TInv B.P all plan (k + 1) (b.put (some d) v) := by
          intro i oi di hi hpi hoi hdi
          have hns : ∀ cs bb, oi.op ≠ .select cs bb := by
            cases hpl i oi hoi hpi with
            | t _ _ hf' => exact floats_nosel hf'
            | q hq => rw [hpi] at hq; cases hq
            | f _ hq => rw [hpi] at hq; cases hq
            | s hq => rw [hpi] at hq; cases hq
          have hex : execOp (b.put (some d) v).eval oi = execOp b.eval oi := execOp_put (ops := all.toArray) oi hns b (some d) v (fun d' hd' => by cases hd'; exact hr i oi (by omega) hoi)
          by_cases hik : i = k
          · subst hik
            rw [ho] at hoi; cases hoi; cases hdi
            exact ⟨v, put_eq (by rw [hsz]; exact hdN), fun w => by rw [hex]; exact hrun w⟩
          · obtain ⟨v', q1, q2⟩ := hT i oi di (by omega) hpi hoi hdi
            have hne : di ≠ d := by
              rintro rfl
              exact hik (ok.uniq hoi ho hdi rfl)
            exact ⟨v', by rw [put_ne hne]; exact q1, fun w => by rw [hex]; exact q2 w⟩
        obtain ⟨σT, bT, g1, g2, g3, g4, g5, g6, g7⟩ := ih (k + 1) _ _ (by simp at hk ⊢; omega) hl h ha' (hng.put d sv) (by rw [put_size]; exact hsz) hT'
        refine ⟨σT, bT, g1, g2, g3, g4, by rw [g5, put_defers], g6, fun t ht => ?_⟩
        obtain ⟨q1, q2⟩ := g7 t (fun j oj hj => ht j oj (by omega))
        have hne : t ≠ d := by
          rintro rfl
          exact ht k _ (Nat.le_refl k) hp ho rfl
        refine ⟨by rw [q1, put_ne hne], ?_⟩
        rw [q2]
        show Env.get ((d, none, sv) :: σ) t = _
        rw [get_cons, nbeq_of (fun hh => hne hh.symm)]; rfl
    · have h : vcT B (plan.drop (k + 1)) l σ Φ K := by
        match hq : plan[k], h0, h with
        | n + 1, _, h => exact h
      obtain ⟨σT, bT, g1, g2, g3, g4, g5, g6, g7⟩ := ih (k + 1) _ _ (by simp at hk ⊢; omega) hl h ha hng hsz (fun i oi di hi hpi hoi hdi => by
        by_cases hik : i = k
        · subst hik; rw [hp] at hpi; exact absurd (Option.some.inj hpi) h0
        · exact hT i oi di (by omega) hpi hoi hdi)
      exact ⟨σT, bT, g1, g2, g3, g4, g5, g6, fun t ht => g7 t (fun j oj hj => ht j oj (by omega))⟩

/-! What is known of the operations that turn nothing, one by one. -/
structure OFact (B : Base) (all : List Oper) (Φ : Phi) (o : Oper) (σ : Env) (gd : Option (Nat × Bool)) (sv : SV) : Prop where
  nd : ∀ c, o.op ≠ .defer c
  ns : ∀ cs b, o.op ≠ .select cs b
  run : ∀ (p : Nat → Prop) r β a w, (∀ x ∈ o.op.operands.toList, Has p x) → GdP p σ → (∀ s w', gd = some (s, w') → p s ∧ (Act.tmps a)[s]? = some (.bool w')) → AgreeP p r β σ a.tmps → B.G r → MemSat r β Φ w → OpTo B.P a w o (Quiet r β Φ w sv)
  gd : (o.guard = none ∧ gd = none) ∨ ∃ j wv s, o.guard = some (j, wv) ∧ dstOf all j = some s ∧ gd = some (s, wv)

/-- a call that made memory of its own, kept apart -/
def Fresh (r : Mem) (β : Bind) (Φ : Phi) (w : World) (res : SV) (Φ' : Phi) (v : Value) (w' : World) : Prop :=
  ∃ r2 βf, r.le r2 ∧ MemSat r2 β Φ w' ∧ Hid r β Φ w r2 β Φ w' ∧ Rel r2 βf res v ∧ MemSat r2 βf Φ' w' ∧ ∀ j ch b, Phi.get Φ' j = some ch → ch.blk (βf j) = some b → w.heap.size ≤ b
structure FFact (B : Base) (Φ : Phi) (o : Oper) (σ : Env) (res : SV) (Φ' : Phi) : Prop where
  nd : ∀ c, o.op ≠ .defer c
  ns : ∀ cs b, o.op ≠ .select cs b
  run : ∀ (p : Nat → Prop) r β a w, (∀ x ∈ o.op.operands.toList, Has p x) → AgreeP p r β σ (Act.tmps a) → B.G r → MemSat r β Φ w → OpTo B.P a w o (Fresh r β Φ w res Φ')

theorem noSel_evK {B : Base} {Φ σ ctx g ung op} {K : SV → Prop} (h : evK B Φ σ ctx g ung op K) : ∀ cs b, op ≠ .select cs b := by
  rintro cs b rfl; exact h

theorem callF_sound {B : Base} {Φ f args largs} {K : SV → Phi → Prop} (h : CallF B f args largs K) (hl : ∀ r β w vs, MemSat r β Φ w → RelL r β args vs → RelL (frz (fun _ => true) r β Φ w) β largs vs) :
    ∃ res Φ', K res Φ' ∧ ∀ r β w0 vs a o, B.G r → MemSat r β Φ w0 → RelL r β args vs → (∀ w, (execOp a.eval o).run B.P w = (callFunc f vs.toArray).run B.P w) → OpTo B.P a w0 o (Fresh r β Φ w0 res Φ') := by
  cases h with
  | nwl pl hp k =>
    rename_i pre res Φ' fn
    simp only [Bool.and_eq_true] at pl
    refine ⟨res, Φ', k, fun r β w0 vs a o hG m hrel hrun => .call f vs.toArray (by rw [hrun]; exact fn.call _ _) ?_⟩
    refine (fn.ok hp.h (frz (fun _ => true) r β Φ w0) β w0 vs (B.mono _ _ (frz_le m) hG) (frz_mem m β) (hl r β w0 vs m hrel)).mono ?_
    rintro e w' ⟨v, sv1, r', β', Φ1, he, ⟨rfl, rfl⟩, hr, m', hle, hid⟩
    obtain ⟨r2, hr2⟩ : ∃ r2 : Mem, r2 = fun b => if b < w0.heap.size then r b else r' b := ⟨_, rfl⟩
    have h1 : r.le r2 := by
      intro b o hb
      rw [hr2]
      have := lt_of_get (m.vis _ _ hb)
      simp only [this, if_true]; exact hb
    have h2 : r2.le r' := by
      intro b o hb
      rw [hr2] at hb
      simp only at hb
      split at hb
      · exact hle _ _ (frz_le m _ _ hb)
      · exact hb
    have hnew : ∀ j ch b, Phi.get Φ1 j = some ch → ch.blk (β' j) = some b → w0.heap.size ≤ b := fun j ch b p1 p2 => new_block hle m' hid p1 p2
    obtain ⟨g1, g2, g3⟩ := back (I := fun _ => False) m (fun j ch b h => by simp [Phi.get] at h) (fun _ h => h.elim) hle m' hid r2 h2 (fun id ch b _ p1 _ p3 => by
      rw [hr2]
      simp only [blk_lt m p1 p3, if_true]
      exact m.sep _ _ _ p1 p3)
    refine ⟨v, he, r2, β', h1, ⟨g2, fun id ch h => (m.chs _ _ h).keep h1 (fun b hb => (g1 id ch b (fun h => h) h hb).1) (fun _ _ _ _ _ _ _ h => h), fun id ch b a1 a2 => (g1 id ch b (fun h => h) a1 a2).2.1, m.nod⟩,
      ⟨hid.os, hid.tape, hid.output, hid.size, fun b hb q1 q2 => ⟨(g3 b hb q1 q2).1, (g3 b hb q1 q2).2.1, q2⟩, fun _ ch h _ => ⟨rfl, ch, h, rfl⟩⟩, plainI_keep hr pl.1, ⟨g2, fun j ch hj => ?_, fun j ch b hj hb => ?_, m'.nod⟩, hnew⟩
    · obtain ⟨τ, l, rfl, hτ⟩ := plainP_get pl.2 hj
      exact own_plain_sat (m'.chs _ _ hj) hτ
    · have := m'.sep _ _ _ hj hb
      cases hq : r2 b with
      | none => rfl
      | some o => rw [h2 b o hq] at this; cases this
  | nw hp k =>
    rename_i pre res Φ' fn
    refine ⟨res, Φ', k, fun r β w0 vs a o hG m hrel hrun => .call f vs.toArray (by rw [hrun]; exact fn.call _ _) ?_⟩
    refine (fn.ok hp.h r β w0 vs hG (memNil m β) hrel).mono ?_
    rintro e w' ⟨v, sv1, r', β', Φ1, he, ⟨rfl, rfl⟩, hr, m', hle, hid⟩
    have hnew : ∀ j ch b, Phi.get Φ1 j = some ch → ch.blk (β' j) = some b → w0.heap.size ≤ b := fun j ch b p1 p2 => new_block hle m' hid p1 p2
    obtain ⟨g1, g2, g3⟩ := back (q := fun _ => false) (I := fun _ => False) (Φc := []) m (fun j ch b h => by simp [Phi.get] at h) (fun _ h => h.elim) (by rw [frz_none]; exact hle) m' (by rw [frz_none]; exact hid) r' (Mem.le_refl _) (fun _ _ _ h => by cases h)
    exact ⟨v, he, r', β', hle, ⟨g2, fun id ch h => (m.chs _ _ h).keep hle (fun b hb => (g1 id ch b (fun h => h) h hb).1) (fun _ _ _ _ _ _ _ h => h), fun id ch b a1 a2 => (g1 id ch b (fun h => h) a1 a2).2.1, m.nod⟩,
      ⟨hid.os, hid.tape, hid.output, hid.size, fun b hb q1 q2 => ⟨(g3 b hb q1 q2).1, (g3 b hb q1 q2).2.1, q2⟩, fun _ ch h _ => ⟨rfl, ch, h, rfl⟩⟩, hr, m', hnew⟩

theorem build_rows {P : Program} {el : TypeId} {τ : Ty} {ln : Nat} {rows : List (List SV)} {l : List τ.T} {us : Array Value} {r : Mem} {w : World} (h5 : τ.isB = true → el = 5) (hts : sizeT P el = τ.size) (h1 : rows.length = ln) (h3 : sizeT P el ≠ 0) (h4 : ln * sizeT P el ≤ 16777216)
    (hl : l.length = rows.length ∧ ∀ (i : Nat) row a, rows[i]? = some row → l[i]? = some a → Entl row (τ.enc a)) (hus : us.size = ln * sizeT P el)
    (hrel : ∀ (i : Nat) row (j : Nat) sv v, rows[i]? = some row → row[j]? = some sv → us[i * sizeT P el + j]? = some v → Rel r β0 sv v) :
    RowsAt r { w with heap := w.heap.push (.cells us el) } (.slice (some ⟨w.heap.size, 0, none⟩) ln ln) τ.isB τ.size (l.map τ.enc) := by
  have hlen : (l.map τ.enc).length = ln := by rw [List.length_map, hl.1, h1]
  by_cases hz : ln = 0
  · left
    exact ⟨_, by rw [hz], List.length_eq_zero_iff.1 (by rw [hlen, hz])⟩
  · right
    have key : ∀ (i : Nat) (row : List SV), (l.map τ.enc)[i]? = some row → ∃ row0 a, rows[i]? = some row0 ∧ Entl row0 row ∧ row = τ.enc a := by
      intro i row hi
      rw [List.getElem?_map] at hi
      cases hq : l[i]? with
      | none => rw [hq] at hi; cases hi
      | some a =>
        rw [hq] at hi
        simp at hi
        subst hi
        have hlt : i < rows.length := by have := lt_len hq; rw [← hl.1]; exact this
        exact ⟨rows[i], a, List.getElem?_eq_getElem hlt, hl.2 i _ a (List.getElem?_eq_getElem hlt) hq, rfl⟩
    have hle : ln ≤ ln * sizeT P el := Nat.le_mul_of_pos_right ln (by omega)
    refine ⟨w.heap.size, 0, ln, us, el, (0, 0), by rw [hlen], hz, heap_alloc_eq, ⟨fun h => ⟨h5 h, rfl⟩, .inl rfl⟩, by omega, by rw [hlen]; exact Nat.le_refl _, by rw [← hts, hus]; omega, ?_, ?_, ?_⟩
    · intro k row hk; obtain ⟨_, a', _, _, rfl⟩ := key k row hk; exact enc_len _ _
    · intro k row j sv hk hj; obtain ⟨_, a', _, _, rfl⟩ := key k row hk; exact enc_one _ _ _ _ hj
    · intro k row j sv v hk hj hv
      obtain ⟨row0, a', g1, g2, rfl⟩ := key k row hk
      have hjl : j < row0.length := by have := lt_len hj; rw [← g2.1]; exact this
      exact (g2.2 j _ sv (List.getElem?_eq_getElem hjl) hj).1 _ _ _ (hrel k row0 j _ v g1 (List.getElem?_eq_getElem hjl) (by rw [hts]; rw [Nat.zero_add] at hv; exact hv))
/-- what was there is there still -/
theorem grows_mem {r β Φ w w'} (m : MemSat r β Φ w) (hg : Grows w w') : MemSat r β Φ w' ∧ Hid r β Φ w r β Φ w' :=
  ⟨⟨fun b o h => by have := m.vis b o h; rw [hg.old b (lt_of_heap this)]; exact this, fun id ch h => (m.chs _ _ h).keep (Mem.le_refl r) (fun b hb => hg.old b ((m.chs _ _ h).alive hb)) (fun _ _ _ _ _ _ _ h => h), m.sep, m.nod⟩,
    hg.os, hg.tape, hg.output, hg.size, fun b hb h1 h2 => ⟨hg.old b hb, h1, h2⟩, fun _ ch h _ => ⟨rfl, ch, h, rfl⟩⟩

theorem freshCallK_sound {B : Base} {Φ σ op} {K : SV → Phi → Prop} (h : freshCallK B Φ σ op K) {dst ty pos after guard} :
    ∃ res Φ', K res Φ' ∧ FFact B Φ ⟨dst, op, ty, pos, after, guard⟩ σ res Φ' := by
  unfold freshCallK at h
  split at h
  · rename_i t ln parts
    split at h
    · rename_i el ht
      split at h
      · rename_i τ hty
        cases hz : szOk B.P el τ.size with
        | false => rw [hz] at h; exact h.elim
        | true =>
        rw [hz] at h
        have hts := (szOk_spec hz).1
        obtain ⟨rows, h, h1, h2, h3, h4, h5, h6⟩ := rowsOfK_sound h
        obtain ⟨l, h, hl⟩ := decRowsK_sound (fun _ _ h => decK_sound h) h
        refine ⟨_, _, h, (fun c hc => by cases hc), (fun cs b hc => by cases hc), fun p r β a w hP ha hG m => ?_⟩
        have sm : Sm p r β σ a.tmps [] (fun p => p) := ⟨ha, fun s w hm => by simp [ctxMem] at hm, fun p hp => hp⟩
        obtain ⟨us, hus, hrun, hrel⟩ := h6 p r β a _ (fun y hy => hP _ (by simp [Op.operands]; exact ⟨_, hy⟩)) sm
        have hrows := build_rows (w := w) (ty_five hty) hts h1 h3 h4 hl hus hrel
        obtain ⟨g1, g2⟩ := grows_mem m (Grows.alloc w (.cells us el))
        have hblk : ∀ b, (Chunk.own τ l).blk (.slice (some ⟨w.heap.size, 0, none⟩) ln ln) = some b → w.heap.size ≤ b := fun b hb => by
          simp only [Chunk.blk] at hb
          cases hq : Nat.beq ln 0 with
          | true => rw [hq] at hb; cases hb
          | false => rw [hq] at hb; simp at hb; omega
        obtain ⟨k1, k2⟩ := mem_new (n := 0) (ch := .own τ l) (v := .slice (some ⟨w.heap.size, 0, none⟩) ln ln) (memNil m β) rfl (Grows.alloc w (.cells us el)) hblk (.own hrows)
        refine .val (.slice (some ⟨w.heap.size, 0, none⟩) ln ln) { w with heap := w.heap.push (.cells us el) } ?_ ⟨r, _, Mem.le_refl r, g1, g2, own_rel rfl, k1, fun j ch b hj hb => ?_⟩
        · have e : (Array.map (fun (x : Nat × Operand) => (x.1, a.eval x.2)) ⟨parts⟩) = (parts.map fun (i, x) => (i, a.eval x)).toArray := by simp
          simp only [execOp, Sem.run_bind]
          rw [e, hrun t w ht]; rfl
        · rw [phi_cons] at hj
          cases hq : Nat.beq 0 j with
          | true =>
            obtain rfl := beq_of hq
            rw [hq] at hj; cases hj
            rw [setB_self] at hb
            exact hblk b hb
          | false => rw [hq] at hj; cases hj
      · exact h.elim
    · exact h.elim
  · rename_i f xs ts
    have hops : ∀ x, x ∈ xs → x ∈ (Op.operands (.call ⟨.value f, ⟨xs⟩, ts⟩)).toList := fun x hx => by simp [Op.operands, Call.operands, hx]
    have hopf : f ∈ (Op.operands (.call ⟨.value f, ⟨xs⟩, ts⟩)).toList := by simp [Op.operands, Call.operands]
    obtain ⟨fv, h, hf⟩ := opK_sound h
    cases fv <;> simp only at h
    rename_i fid caps
    obtain ⟨l, h, h1, h2⟩ := opsK_sound h
    have h := appK_sound h
    have fin : ∀ {res Φ'}, (∀ r β w0 vs a o, B.G r → MemSat r β Φ w0 → RelL r β (l ++ caps) vs → (∀ w, (execOp a.eval o).run B.P w = (callFunc fid vs.toArray).run B.P w) → OpTo B.P a w0 o (Fresh r β Φ w0 res Φ')) → FFact B Φ ⟨dst, .call ⟨.value f, ⟨xs⟩, ts⟩, ty, pos, after, guard⟩ σ res Φ' := by
      intro res Φ' hr
      refine ⟨(fun c hc => by cases hc), (fun cs b hc => by cases hc), fun p r β a w hP ha hG m => ?_⟩
      have sm : Sm p r β σ a.tmps [] (fun p => p) := ⟨ha, fun s w hm => by simp [ctxMem] at hm, fun p hp => hp⟩
      have hfv := hf p r β a _ (hP _ hopf) sm
      generalize hq : a.eval f = v at hfv
      cases hfv with
      | fn hl hc =>
        rename_i cs
        refine hr r β w (xs.map a.eval ++ cs) a _ hG m ((evalL h1 (h2 p r β a _ (fun x hx => hP _ (hops x hx)) sm)).append ⟨hl, hc⟩) fun w => ?_
        simp only [execOp, resolve, hq, Deferred.ofValue, Sem.run_bind, Sem.run_pure, Result.andThen_ok, invoke]
        congr 2
        simp
    cases ho : SV.okIdsL (fun _ => false) (l ++ caps) with
    | true =>
      rw [ho] at h
      obtain ⟨res, Φ', hk, hr⟩ := callF_sound h (fun r β w vs m hv => hv.mono (frz_le m))
      exact ⟨res, Φ', hk, fin hr⟩
    | false =>
      rw [ho] at h
      obtain ⟨ys, h, hl⟩ := lendK_sound h
      obtain ⟨res, Φ', hk, hr⟩ := callF_sound h hl
      exact ⟨res, Φ', hk, fin hr⟩
  · exact h.elim
end Go.Vc

namespace Go.Vc
set_option autoImplicit false
set_option linter.unusedVariables false
set_option linter.unusedSimpArgs false

structure PreFacts (B : Base) (all : List Oper) (plan : List Nat) (Φ : Phi) (k p : Nat) (sig : Nat → Env) (frl : Nat → Frs) (gd : Nat → Option (Nat × Bool)) (sv : Nat → SV) (fr : Nat → SV × Phi) : Prop where
  kp : k ≤ p
  pl : p ≤ all.length
  stepT : ∀ (i : Nat), k ≤ i → i < p → plan[i]? = some 0 → sig (i + 1) = sig i ∧ frl (i + 1) = frl i
  step1 : ∀ (i : Nat) (o : Oper), k ≤ i → i < p → plan[i]? = some 1 → all[i]? = some o → sig (i + 1) = putE o.dst (gd i) (sv i) (sig i) ∧ frl (i + 1) = frl i ∧ OFact B all Φ o (sig i) (gd i) (sv i)
  step2 : ∀ (i : Nat) (o : Oper) (d : Nat), k ≤ i → i < p → plan[i]? = some 2 → all[i]? = some o → o.dst = some d → sig (i + 1) = (d, none, .und) :: sig i ∧ frl (i + 1) = (d, (fr i).1, (fr i).2) :: frl i ∧ FFact B Φ o (sig i) (fr i).1 (fr i).2
  no3 : ∀ (i : Nat), k ≤ i → i < p → plan[i]? ≠ some 3
  rest : ∀ (i : Nat), p ≤ i → i < all.length → plan[i]? = some 0 ∨ plan[i]? = some 3

theorem vcPre_facts {B : Base} {all : List Oper} {plan : List Nat} {Φ : Phi} (hlen : plan.length = all.length) (hpl : ∀ (i : Nat) (o : Oper), all[i]? = some o → PlanAt all plan i o) {K : Env → Frs → List Nat → List Oper → Prop} :
    ∀ (l : List Oper) (k : Nat) (σ : Env) (F : Frs), k + l.length = all.length → l = all.drop k → vcPre B all Φ (plan.drop k) l σ F K →
      ∃ p sig frl gd sv fr, PreFacts B all plan Φ k p sig frl gd sv fr ∧ sig k = σ ∧ frl k = F ∧ K (sig p) (frl p) (plan.drop p) (all.drop p) := by
  intro l
  induction l with
  | nil =>
    intro k σ F hk he h
    have hkl : k = all.length := by simpa using hk
    have hd : plan.drop k = [] := List.drop_eq_nil_of_le (by omega)
    rw [hd] at h
    have h : K σ F [] [] := h
    refine ⟨k, fun _ => σ, fun _ => F, fun _ => none, fun _ => .und, fun _ => (.und, []), ⟨Nat.le_refl _, by omega, fun i h1 h2 => by omega, fun i o h1 h2 => by omega, fun i o d h1 h2 => by omega, fun i h1 h2 => by omega, fun i h1 h2 => by omega⟩, rfl, rfl, ?_⟩
    rw [hd, ← he]; exact h
  | cons o l ih =>
    intro k σ F hk he h
    have hkl : k < all.length := by simp at hk; omega
    have ho : all[k]? = some o := by
      have : (all.drop k)[0]? = some o := by rw [← he]; rfl
      simpa using this
    have hl : l = all.drop (k + 1) := by
      have := congrArg List.tail he
      simpa using this
    have hkp : k < plan.length := by omega
    have hp : plan[k]? = some plan[k] := List.getElem?_eq_getElem hkp
    have hpd : plan.drop k = plan[k] :: plan.drop (k + 1) := List.drop_eq_getElem_cons hkp
    have hk' : k + 1 + l.length = all.length := by simp at hk; omega
    rw [hpd] at h
    -- how one more fact is put ahead of those behind
    have glue : ∀ {σ1 : Env} {F1 : Frs} {gd0 : Option (Nat × Bool)} {sv0 : SV} {fr0 : SV × Phi}, (plan[k]? = some 0 → σ1 = σ ∧ F1 = F) → (plan[k]? = some 1 → σ1 = putE o.dst gd0 sv0 σ ∧ F1 = F ∧ OFact B all Φ o σ gd0 sv0) →
        (∀ d, plan[k]? = some 2 → o.dst = some d → σ1 = (d, none, .und) :: σ ∧ F1 = (d, fr0.1, fr0.2) :: F ∧ FFact B Φ o σ fr0.1 fr0.2) → plan[k]? ≠ some 3 →
        (vcPre B all Φ (plan.drop (k + 1)) l σ1 F1 K) →
        ∃ p sig frl gd sv fr, PreFacts B all plan Φ k p sig frl gd sv fr ∧ sig k = σ ∧ frl k = F ∧ K (sig p) (frl p) (plan.drop p) (all.drop p) := by
      intro σ1 F1 gd0 sv0 fr0 h0 h1 h2 h3 h
      obtain ⟨p, sig, frl, gd, sv, fr, pf, e1, e2, hK⟩ := ih (k + 1) σ1 F1 hk' hl h
      have ne : ∀ {i}, k + 1 ≤ i → i ≠ k := fun h => by omega
      have hkp1 := pf.kp
      refine ⟨p, fun i => if i = k then σ else sig i, fun i => if i = k then F else frl i, fun i => if i = k then gd0 else gd i, fun i => if i = k then sv0 else sv i, fun i => if i = k then fr0 else fr i,
        ⟨by omega, pf.pl, fun i q1 q2 q3 => ?_, fun i oi q1 q2 q3 q4 => ?_, fun i oi d q1 q2 q3 q4 q5 => ?_, fun i q1 q2 => ?_, pf.rest⟩, by simp, by simp, ?_⟩
      · by_cases hi : i = k
        · subst hi
          obtain ⟨a1, a2⟩ := h0 q3
          simp only [show ¬ i + 1 = i by omega, if_false, if_true, e1, e2]
          exact ⟨a1, a2⟩
        · simp only [hi, show ¬ i + 1 = k by omega, if_false]
          exact pf.stepT i (by omega) q2 q3
      · by_cases hi : i = k
        · subst hi
          rw [ho] at q4; cases q4
          obtain ⟨a1, a2, a3⟩ := h1 q3
          simp only [show ¬ i + 1 = i by omega, if_false, if_true, e1, e2]
          exact ⟨a1, a2, a3⟩
        · simp only [hi, show ¬ i + 1 = k by omega, if_false]
          exact pf.step1 i oi (by omega) q2 q3 q4
      · by_cases hi : i = k
        · subst hi
          rw [ho] at q4; cases q4
          obtain ⟨a1, a2, a3⟩ := h2 d q3 q5
          simp only [show ¬ i + 1 = i by omega, if_false, if_true, e1, e2]
          exact ⟨a1, a2, a3⟩
        · simp only [hi, show ¬ i + 1 = k by omega, if_false]
          exact pf.step2 i oi d (by omega) q2 q3 q4 q5
      · by_cases hi : i = k
        · subst hi; exact h3
        · exact pf.no3 i (by omega) q2
      · simp only [show ¬ p = k by omega, if_false]; exact hK
    cases hpl k o ho with
    | t d hq hf hg hd _ _ =>
      rw [hp] at hq
      have hq0 := Option.some.inj hq
      rw [hq0] at h hp
      have h : vcPre B all Φ (plan.drop (k + 1)) l σ F K := h
      exact glue (gd0 := none) (sv0 := .und) (fr0 := (.und, [])) (fun _ => ⟨rfl, rfl⟩) (fun hh => by rw [hp] at hh; cases hh) (fun d hh => by rw [hp] at hh; cases hh) (fun hh => by rw [hp] at hh; cases hh) h
    | q hq h3 =>
      rw [hp] at hq
      have hq0 := Option.some.inj hq
      rw [hq0] at h hp
      obtain ⟨dst, op, ty, pos, after, guard⟩ := o
      cases guard with
      | none =>
        have h : evK B Φ σ [] (fun p => p) false op fun sv => vcPre B all Φ (plan.drop (k + 1)) l (putE dst none sv σ) F K := h
        have hns := noSel_evK h
        obtain ⟨sv, h, hnd, hop⟩ := evK_sound h (fun hq => by cases hq)
        refine glue (gd0 := none) (sv0 := sv) (fr0 := (.und, [])) (fun hh => by rw [hp] at hh; cases hh) (fun _ => ⟨rfl, rfl, hnd, hns, fun p r β a w hP hgp hgd ha hG m => ?_, .inl ⟨rfl, rfl⟩⟩) (fun d hh => by rw [hp] at hh; cases hh) (fun hh => by rw [hp] at hh; cases hh) h
        exact hop p r β a w hP ⟨ha, fun s w hm => by simp [ctxMem] at hm, fun p hp => hp⟩ hG m _ _ _ _ _
      | some jw =>
        obtain ⟨j, wv⟩ := jw
        have h : (match dstOf all j with
          | some s => ctxK σ 40 s wv fun ctx g => evK B Φ σ ctx g false op fun sv => vcPre B all Φ (plan.drop (k + 1)) l (putE dst (some (s, wv)) sv σ) F K
          | none => False) := h
        split at h
        · rename_i sl hs
          obtain ⟨ctx, g, h, hsm⟩ := ctxK_sound h
          have hns := noSel_evK h
          obtain ⟨sv, h, hnd, hop⟩ := evK_sound h (fun hq => by cases hq)
          refine glue (gd0 := some (sl, wv)) (sv0 := sv) (fr0 := (.und, [])) (fun hh => by rw [hp] at hh; cases hh) (fun _ => ⟨rfl, rfl, hnd, hns, fun p r β a w hP hgp hgd ha hG m => ?_, .inr ⟨j, wv, sl, rfl, hs, rfl⟩⟩) (fun d hh => by rw [hp] at hh; cases hh) (fun hh => by rw [hp] at hh; cases hh) h
          obtain ⟨g1, g2⟩ := hgd sl wv rfl
          exact hop p r β a w hP (hsm p r β a.tmps hgp g1 ha g2) hG m _ _ _ _ _
        · exact h.elim
    | f d hq h3 hg hd _ =>
      rw [hp] at hq
      have hq0 := Option.some.inj hq
      rw [hq0] at h hp
      obtain ⟨dst, op, ty, pos, after, guard⟩ := o
      have hg : guard = none := hg
      have hd : dst = some d := hd
      subst hg; subst hd
      have h : freshCallK B Φ σ op fun res Φ' => vcPre B all Φ (plan.drop (k + 1)) l ((d, none, .und) :: σ) ((d, res, Φ') :: F) K := h
      obtain ⟨res, Φ', h, hf⟩ := freshCallK_sound (dst := some d) (ty := ty) (pos := pos) (after := after) (guard := none) h
      exact glue (gd0 := none) (sv0 := .und) (fr0 := (res, Φ')) (fun hh => by rw [hp] at hh; cases hh) (fun hh => by rw [hp] at hh; cases hh) (fun d' _ hd' => by cases hd'; exact ⟨rfl, rfl, hf⟩) (fun hh => by rw [hp] at hh; cases hh) h
    | s hq hc =>
      rw [hp] at hq
      have hq0 := Option.some.inj hq
      rw [hq0] at h hp hpd
      have h : K σ F (3 :: plan.drop (k + 1)) (o :: l) := h
      refine ⟨k, fun _ => σ, fun _ => F, fun _ => none, fun _ => .und, fun _ => (.und, []), ⟨Nat.le_refl _, by omega, fun i h1 h2 => by omega, fun i o h1 h2 => by omega, fun i o d h1 h2 => by omega, fun i h1 h2 => by omega, fun i h1 h2 => ?_⟩, rfl, rfl, ?_⟩
      · by_cases hi : i = k
        · subst hi; exact .inr hp
        · cases hpl i _ (List.getElem?_eq_getElem h2) with
          | t d hq => exact .inl hq
          | q _ h3 => exact absurd hp (h3 k (by omega))
          | f _ _ h3 => exact absurd hp (h3 k (by omega))
          | s hq => exact .inr hq
      · rw [hpd, ← he]; exact h

/-- what the walk says of a slot, ahead of operation i -/
theorem sig_get {B : Base} {all : List Oper} {plan : List Nat} {Φ : Phi} {p : Nat} {sig : Nat → Env} {frl : Nat → Frs} {gd : Nat → Option (Nat × Bool)} {sv : Nat → SV} {fr : Nat → SV × Phi} (pf : PreFacts B all plan Φ 0 p sig frl gd sv fr)
    {N : Nat} (ok : RegOk N all) (hlen : plan.length = all.length) (hpl : ∀ (i : Nat) (o : Oper), all[i]? = some o → PlanAt all plan i o) : ∀ (i : Nat), i ≤ p → ∀ t,
      (∀ (j : Nat) (oj : Oper), j < i → all[j]? = some oj → oj.dst = some t → (plan[j]? = some 1 → Env.get (sig i) t = some (gd j, sv j)) ∧ (plan[j]? = some 2 → Env.get (sig i) t = some (none, .und))) ∧
      ((∀ (j : Nat) (oj : Oper), j < i → plan[j]? ≠ some 0 → all[j]? = some oj → oj.dst ≠ some t) → Env.get (sig i) t = Env.get (sig 0) t) := by
  intro i
  induction i with
  | zero => intro _ t; exact ⟨fun j oj hj => by omega, fun _ => rfl⟩
  | succ i ih =>
    intro hi t
    obtain ⟨ih1, ih2⟩ := ih (by omega) t
    have hil : i < all.length := by have := pf.pl; omega
    have ho : all[i]? = some all[i] := List.getElem?_eq_getElem hil
    have lift : ∀ {x : Option (Nat × Bool)} {y : SV} {dst : Option Nat}, all[i].dst = dst → (sig (i + 1) = putE dst x y (sig i)) →
        (∀ (j : Nat) (oj : Oper), j < i → all[j]? = some oj → oj.dst = some t → Env.get (sig (i + 1)) t = Env.get (sig i) t) ∧ (dst = some t → Env.get (sig (i + 1)) t = some (x, y)) ∧ (dst ≠ some t → Env.get (sig (i + 1)) t = Env.get (sig i) t) := by
      intro x y dst hd he
      have h3 : dst ≠ some t → Env.get (sig (i + 1)) t = Env.get (sig i) t := by
        intro hne
        rw [he]
        cases dst with
        | none => rfl
        | some d =>
          show Env.get ((d, x, y) :: sig i) t = _
          rw [get_cons, nbeq_of (fun h => hne (by rw [h]))]; rfl
      refine ⟨fun j oj hj hoj hdj => h3 fun hdt => ?_, fun hdt => ?_, h3⟩
      · have := ok.uniq hoj ho hdj (by rw [hd, hdt])
        omega
      · rw [he, hdt]
        show Env.get ((t, x, y) :: sig i) t = _
        rw [get_cons, Nat.beq_refl]; rfl
    cases hpl i _ ho with
    | t d hq =>
      obtain ⟨e1, _⟩ := pf.stepT i (by omega) (by omega) hq
      rw [e1]
      refine ⟨fun j oj hj hoj hdj => ?_, fun hn => ih2 fun j oj hj => hn j oj (by omega)⟩
      by_cases hji : j = i
      · subst hji; exact ⟨fun h => (by rw [hq] at h; cases h), fun h => (by rw [hq] at h; cases h)⟩
      · exact ih1 j oj (by omega) hoj hdj
    | q hq =>
      obtain ⟨e1, _, _⟩ := pf.step1 i _ (by omega) (by omega) hq ho
      obtain ⟨l1, l2, l3⟩ := lift rfl e1
      refine ⟨fun j oj hj hoj hdj => ?_, fun hn => ?_⟩
      · by_cases hji : j = i
        · subst hji
          rw [ho] at hoj; cases hoj
          exact ⟨fun _ => l2 hdj, fun h => (by rw [hq] at h; cases h)⟩
        · rw [l1 j oj (by omega) hoj hdj]; exact ih1 j oj (by omega) hoj hdj
      · rw [l3 (hn i _ (by omega) (by rw [hq]; simp) ho)]
        exact ih2 fun j oj hj => hn j oj (by omega)
    | f d hq _ _ hd =>
      obtain ⟨e1, _, _⟩ := pf.step2 i _ d (by omega) (by omega) hq ho hd
      obtain ⟨l1, l2, l3⟩ := lift hd (x := none) (y := .und) e1
      refine ⟨fun j oj hj hoj hdj => ?_, fun hn => ?_⟩
      · by_cases hji : j = i
        · subst hji
          rw [ho] at hoj; cases hoj
          refine ⟨fun h => (by rw [hq] at h; cases h), fun _ => l2 ?_⟩
          rw [hd] at hdj; exact hdj
        · rw [l1 j oj (by omega) hoj hdj]; exact ih1 j oj (by omega) hoj hdj
      · rw [l3 (by rw [← hd]; exact hn i _ (by omega) (by rw [hq]; simp) ho)]
        exact ih2 fun j oj hj => hn j oj (by omega)
    | s hq => exact absurd hq (pf.no3 i (by omega) (by omega))
end Go.Vc

namespace Go.Vc
set_option autoImplicit false
set_option linter.unusedVariables false
set_option linter.unusedSimpArgs false

/-- what was kept apart becomes the call's own -/
theorem after0_sound {res : SV} {Φ' : Phi} {σ : Env} {Φ : Phi} {n : Nat} {K : EK} (h : afterK [] res Φ' σ Φ n K) :
    ∃ res' Φ2 n', K res' σ Φ2 n' ∧ ∀ r β βf w v, MemSat r β Φ w → MemSat r βf Φ' w →
      (∀ id ch j ch' b, Phi.get Φ id = some ch → ch.blk (β id) = some b → Phi.get Φ' j = some ch' → ch'.blk (βf j) ≠ some b) → Rel r βf res v →
      ∃ β2, Rel r β2 res' v ∧ MemSat r β2 Φ2 w ∧ Keep β Φ β2 Φ2 ∧ (∀ k g sv, Env.get σ k = some (g, sv) → ∀ u, Rel r β sv u → Rel r β2 sv u) ∧
        (∀ i ch b, Phi.get Φ2 i = some ch → ch.blk (β2 i) = some b → (∃ id c, Phi.get Φ id = some c ∧ c.blk (β id) = some b) ∨ ∃ j c, Phi.get Φ' j = some c ∧ c.blk (βf j) = some b) := by
  have h : newMK σ Φ Φ' [] n fun M n' =>
    bif nodupFst M && nodupSnd M then
      rn2 M res fun res => backPK M Φ' fun Φb => dropMK [] Φ fun Φr => appPK Φb Φr fun Φ2 => K res σ Φ2 n'
    else False := h
  obtain ⟨P, M, n', hM, h, hP, hall⟩ := newMK_sound h
  rw [List.append_nil] at hM
  subst hM
  cases hnd : (nodupFst M && nodupSnd M) with
  | false => rw [hnd] at h; exact h.elim
  | true =>
  rw [hnd] at h
  simp only [cond_true] at h
  simp only [Bool.and_eq_true] at hnd
  obtain ⟨hn1, hn2⟩ := hnd
  obtain ⟨res', h, hres⟩ := rn2_sound h
  obtain ⟨Φb, h, hb1, hb2⟩ := backPK_sound hn1 hn2 h
  obtain ⟨Φr, h, hr1⟩ := dropMK_sound h
  rw [appPK_eq] at h
  have hr1 : ∀ i, Phi.get Φr i = Phi.get Φ i := hr1
  refine ⟨res', _, n', h, fun r β βf w v m mf hdis hv => ?_⟩
  obtain ⟨β2, hβ2⟩ : ∃ β2 : Bind, β2 = fun i => match lookB M i with | some j => βf j | none => β i := ⟨_, rfl⟩
  have F1 : ∀ {i j}, lookF M j = some i → β2 i = βf j := by
    intro i j hij
    have := lookB_of hn2 (lookF_mem hij)
    rw [hβ2]; simp only [this]
  have Fo : ∀ {i ch}, Phi.get Φ i = some ch → β2 i = β i ∧ lookB M i = none := by
    intro i ch hg
    have hl : lookB M i = none := by
      cases hl : lookB M i with
      | none => rfl
      | some j => exact absurd rfl (freshP_get (hP j i (lookB_mem hl)).2 i ch hg).1
    refine ⟨?_, hl⟩
    rw [hβ2]; simp only [hl]
  have F4 : ∀ {sv v}, (∀ j i, (j, i) ∈ M → sv.okIds (fun k => !Nat.beq k i) = true) → Rel r β sv v → Rel r β2 sv v := by
    intro sv v hn hr
    have hno : NoneOf (M.map (·.2)) sv := by
      intro i hi
      obtain ⟨⟨j, i'⟩, hji, rfl⟩ := List.mem_map.1 hi
      exact hn j i' hji
    refine hr.bind (p := fun k => !memN k (M.map (·.2))) (fun k hk => ?_) hno.ok
    simp only [Bool.not_eq_true'] at hk
    cases hl : lookB M k with
    | none => rw [hβ2]; simp only [hl]
    | some j =>
      have : memN k (M.map (·.2)) = true := memN_iff.2 (List.mem_map.2 ⟨(j, k), lookB_mem hl, rfl⟩)
      rw [this] at hk; cases hk
  have get : ∀ i ch, Phi.get (Φb ++ Φr) i = some ch → (∃ j ch', lookF M j = some i ∧ Phi.get Φ' j = some ch' ∧ RnC M ch' ch ∧ β2 i = βf j) ∨ (β2 i = β i ∧ Phi.get Φ i = some ch) := by
    intro i ch hi
    rw [phi_app] at hi
    cases hq : Phi.get Φb i with
    | some c =>
      rw [hq] at hi; cases hi
      obtain ⟨j, ch', q1, q2, q3⟩ := hb1 i ch hq
      exact .inl ⟨j, ch', q1, q2, q3, F1 q1⟩
    | none =>
      rw [hq] at hi
      rw [hr1] at hi
      exact .inr ⟨(Fo hi).1, hi⟩
  have hrn : Rn M βf β2 := fun j i hji => F1 hji
  refine ⟨β2, hres _ _ _ _ hrn hv, ⟨m.vis, fun i ch hi => ?_, fun i ch b hi hb => ?_, fun i i' ch ch' b hi hi' hb hb' => ?_⟩, fun i ch hi hk => ?_, fun k g sv hk u hr => F4 (fun j i hji => freshE_get (hP j i hji).1 k g sv hk) hr, fun i ch b hi hb => ?_⟩
  · rcases get i ch hi with ⟨j, ch', q1, q2, q3, q4⟩ | ⟨q1, q2⟩
    · rw [q4]; exact q3.sat (Mem.le_refl r) hrn (mf.chs _ _ q2) (fun _ _ => rfl)
    · rw [q1]
      refine (m.chs _ _ q2).keep (Mem.le_refl r) (fun _ _ => rfl) (fun _ cells he k sv u hk hr => F4 (fun j i' hji => ?_) hr)
      have := (freshP_get (hP j i' hji).2 i ch q2).2
      subst he
      exact SV.okIdsL_get this k sv hk
  · rcases get i ch hi with ⟨j, ch', q1, q2, q3, q4⟩ | ⟨q1, q2⟩
    · rw [q4, q3.blk] at hb; exact mf.sep _ _ _ q2 hb
    · rw [q1] at hb; exact m.sep _ _ _ q2 hb
  · rcases get i ch hi with ⟨j, cj, q1, q2, q3, q4⟩ | ⟨q1, q2⟩ <;> rcases get i' ch' hi' with ⟨j', cj', q1', q2', q3', q4'⟩ | ⟨q1', q2'⟩
    · rw [q4, q3.blk] at hb; rw [q4', q3'.blk] at hb'
      have := mf.nod _ _ _ _ _ q2 q2' hb hb'
      subst this
      rw [q1] at q1'; cases q1'; rfl
    · rw [q4, q3.blk] at hb; rw [q1'] at hb'
      exact (hdis _ _ _ _ _ q2' hb' q2 hb).elim
    · rw [q1] at hb; rw [q4', q3'.blk] at hb'
      exact (hdis _ _ _ _ _ q2 hb q2' hb').elim
    · rw [q1] at hb; rw [q1'] at hb'
      exact m.nod _ _ _ _ _ q2 q2' hb hb'
  · obtain ⟨k1, k2⟩ := Fo hi
    have hnb : Phi.get Φb i = none := by
      cases hq : Phi.get Φb i with
      | none => rfl
      | some c =>
        obtain ⟨j, ch', q1, _, _⟩ := hb1 i c hq
        have := lookB_of hn2 (lookF_mem q1)
        rw [k2] at this; cases this
    exact ⟨k1, ch, by rw [phi_app, hnb]; show Phi.get Φr i = some ch; rw [hr1]; exact hi, rfl⟩
  · rcases get i ch hi with ⟨j, ch', q1, q2, q3, q4⟩ | ⟨q1, q2⟩
    · rw [q4, q3.blk] at hb; exact .inr ⟨j, ch', q2, hb⟩
    · rw [q1] at hb; exact .inl ⟨i, ch, q2, hb⟩

/-- chunks that were kept apart stay as they are -/
theorem memKeep {r β Φ w r' w' βf Φf} (mf : MemSat r βf Φf w) (hle : r.le r') (m' : MemSat r' β Φ w') (hid : Hid r β Φ w r' β Φ w')
    (hn : ∀ j ch b, Phi.get Φf j = some ch → ch.blk (βf j) = some b → ∀ id c, Phi.get Φ id = some c → c.blk (β id) ≠ some b) : MemSat r' βf Φf w' := by
  have key : ∀ j ch b, Phi.get Φf j = some ch → ch.blk (βf j) = some b → w'.heap[b]? = w.heap[b]? ∧ r' b = none := by
    intro j ch b h1 h2
    obtain ⟨g1, g2, _⟩ := hid.block b ((mf.chs _ _ h1).alive h2) (mf.sep _ _ _ h1 h2) (fun id c hc => hn j ch b h1 h2 id c hc)
    exact ⟨g1, g2⟩
  exact ⟨m'.vis, fun j ch hj => (mf.chs _ _ hj).keep hle (fun b hb => (key j ch b hj hb).1) (fun _ _ _ _ _ _ _ h => h), fun j ch b hj hb => (key j ch b hj hb).2, mf.nod⟩

theorem looks_op {A : Array Oper} {o : Oper} {t : Nat} (h : Operand.tmp t ∈ o.op.operands) : t ∈ o.looksAt A :=
  List.mem_append_left _ (List.mem_filterMap.2 ⟨.tmp t, by simpa using h, rfl⟩)
theorem looks_guard {all : List Oper} {o : Oper} {j s : Nat} {w : Bool} (hg : o.guard = some (j, w)) (hs : dstOf all j = some s) : s ∈ o.looksAt all.toArray := by
  obtain ⟨o', h1, h2⟩ := dstOf_spec hs
  refine List.mem_append_right _ ?_
  simp [hg, h1, h2]
theorem exec_same {A : Array Oper} {o : Oper} (hs : ∀ cs b, o.op ≠ .select cs b) {a b : Act} (h : ∀ t ∈ o.looksAt A, a.tmps[t]? = b.tmps[t]?) : execOp a.eval o = execOp b.eval o := by
  refine execOp_congr o hs fun x hx => ?_
  cases x with
  | tmp t =>
    show a.tmps.getD t undef = b.tmps.getD t undef
    rw [Array.getD_eq_getD_getElem?, Array.getD_eq_getD_getElem?, h t (looks_op hx)]
  | _ => rfl
theorem wanted_same {A : Array Oper} {o : Oper} {a b : Act} (h : ∀ t ∈ o.looksAt A, a.tmps[t]? = b.tmps[t]?) : Region.wanted o (yielded A a.tmps) = Region.wanted o (yielded A b.tmps) := by
  unfold Region.wanted
  cases hg : o.guard with
  | none => rfl
  | some gw =>
    obtain ⟨g, want⟩ := gw
    have hy : yielded A a.tmps g = yielded A b.tmps g := by
      unfold yielded
      cases ht : (A[g]?).bind (·.dst) with
      | none => rfl
      | some t =>
        have : a.tmps[t]? = b.tmps[t]? := h t (by simp [Oper.looksAt, hg, ht])
        simp only [Option.bind_some, this]
    simp only [hy]
theorem OpTo.same {P a b w o R} (he : execOp a.eval o = execOp b.eval o) (h : OpTo P b w o R) : OpTo P a w o R := by
  cases h with
  | val v w' h hr => exact .val v w' (by rw [he]; exact h) hr
  | skip w' h hr => exact .skip w' (by rw [he]; exact h) hr
  | call f args h hc => exact .call f args (by rw [he]; exact h) hc
  | round l f tmps assign body h hc => exact .round l f tmps assign body (by rw [he]; exact h) hc
end Go.Vc

namespace Go.Vc
set_option autoImplicit false
set_option linter.unusedVariables false
set_option linter.unusedSimpArgs false
set_option maxHeartbeats 1000000

section
variable {B : Base} {F : Entry → Prop} {N : Nat} {all : List Oper} {plan : List Nat} {r : Mem} {β : Bind} {Φ : Phi} {n : Nat} {w0 : World} {p : Nat} {sig : Nat → Env} {frl : Nat → Frs} {gd : Nat → Option (Nat × Bool)} {sv : Nat → SV} {fr : Nat → SV × Phi} {aT : Act}

/-- the frame as it is, and the one in which all of plan 0 have been carried out -/
structure TR (all : List Oper) (plan : List Nat) (S : Nat → Prop) (aT a b : Act) : Prop where
  defers : a.defers = b.defers
  size : a.tmps.size = b.tmps.size
  szT : b.tmps.size = aT.tmps.size
  dfT : b.defers = aT.defers
  slotT : ∀ (i : Nat) (o : Oper) (d : Nat), plan[i]? = some 0 → all[i]? = some o → o.dst = some d → S i → a.tmps[d]? = b.tmps[d]?
  slotN : ∀ t, (∀ (i : Nat) (o : Oper), plan[i]? = some 0 → all[i]? = some o → o.dst ≠ some t) → a.tmps[t]? = b.tmps[t]?
  base : ∀ t, (∀ (i : Nat) (o : Oper), S i → plan[i]? ≠ some 0 → all[i]? = some o → o.dst ≠ some t) → b.tmps[t]? = aT.tmps[t]?

structure PI (r : Mem) (β : Bind) (Φ : Phi) (w0 : World) (all : List Oper) (plan : List Nat) (p : Nat) (gd : Nat → Option (Nat × Bool)) (sv : Nat → SV) (fr : Nat → SV × Phi) (S : Nat → Prop) (b : Act) (w : World) (r' : Mem) (x : Nat → Value) (βf : Nat → Bind) : Prop where
  le : r.le r'
  mem : MemSat r' β Φ w
  hid : Hid r β Φ w0 r' β Φ w
  lt : ∀ (i : Nat), S i → plan[i]? ≠ some 0 → i < p
  ent : ∀ (i : Nat) (o : Oper) (d : Nat), S i → plan[i]? = some 1 → all[i]? = some o → o.dst = some d → EntSat r' β b.tmps d (gd i) (sv i)
  frs : ∀ (i : Nat) (o : Oper) (d : Nat), S i → plan[i]? = some 2 → all[i]? = some o → o.dst = some d → b.tmps[d]? = some (x i) ∧ Rel r' (βf i) (fr i).1 (x i) ∧ MemSat r' (βf i) (fr i).2 w ∧
    ∀ j ch bb, Phi.get (fr i).2 j = some ch → ch.blk (βf i j) = some bb → w0.heap.size ≤ bb
  dis : ∀ (i i' : Nat) j ch j' ch' bb, S i → S i' → plan[i]? = some 2 → plan[i']? = some 2 → i ≠ i' → Phi.get (fr i).2 j = some ch → ch.blk (βf i j) = some bb → Phi.get (fr i').2 j' = some ch' → ch'.blk (βf i' j') ≠ some bb

/-- where a region stands whose order is drawn -/
def DI (B : Base) (F : Entry → Prop) (N : Nat) (r : Mem) (β : Bind) (Φ : Phi) (w0 : World) (all : List Oper) (plan : List Nat) (p : Nat) (gd : Nat → Option (Nat × Bool)) (sv : Nat → SV) (fr : Nat → SV × Phi) (aT : Act) (K : Env → Phi → Nat → Prop) (S : Nat → Prop) (a : Act) (w : World) : Prop :=
  ∃ b, TR all plan S aT a b ∧ ((∃ r' x βf, PI r β Φ w0 all plan p gd sv fr S b w r' x βf) ∨
    ∃ m, p ≤ m ∧ (∀ (i : Nat), i < all.length → plan[i]? ≠ some 0 → (S i ↔ i < m)) ∧ SeqInv B F N all m (restOps (plan.drop m) (all.drop m)) K b w)

theorem restOps_skip {all : List Oper} {plan : List Nat} (hlen : plan.length = all.length) : ∀ (d m : Nat), m + d ≤ all.length → (∀ (i : Nat), m ≤ i → i < m + d → plan[i]? = some 0) → restOps (plan.drop m) (all.drop m) = restOps (plan.drop (m + d)) (all.drop (m + d)) := by
  intro d
  induction d with
  | zero => intro m _ _; rfl
  | succ d ih =>
    intro m hm h
    have h1 : m < plan.length := by omega
    have h2 : m < all.length := by omega
    have h0 := h m (Nat.le_refl m) (by omega)
    rw [List.getElem?_eq_getElem h1] at h0
    rw [List.drop_eq_getElem_cons h1, List.drop_eq_getElem_cons h2, Option.some.inj h0]
    have := ih (m + 1) (by omega) (fun i q1 q2 => h i (by omega) (by omega))
    rw [show m + (d + 1) = m + 1 + d by omega, ← this]
    rfl
theorem restOps_cons {all : List Oper} {plan : List Nat} {k : Nat} {o : Oper} (ho : all[k]? = some o) (hp : plan[k]? = some 3) : restOps (plan.drop k) (all.drop k) = o :: restOps (plan.drop (k + 1)) (all.drop (k + 1)) := by
  have h1 := lt_len ho
  have h2 := lt_len hp
  rw [List.getElem?_eq_getElem h1] at ho
  rw [List.getElem?_eq_getElem h2] at hp
  rw [List.drop_eq_getElem_cons h1, List.drop_eq_getElem_cons h2, Option.some.inj hp, Option.some.inj ho]
  rfl
theorem restOps_nil {all : List Oper} {plan : List Nat} {m : Nat} (hlen : plan.length = all.length) (hm : m ≤ all.length) (h : ∀ (i : Nat), m ≤ i → i < all.length → plan[i]? = some 0) : restOps (plan.drop m) (all.drop m) = [] := by
  rw [restOps_skip hlen (all.length - m) m (by omega) (fun i q1 q2 => h i q1 (by omega))]
  rw [List.drop_eq_nil_of_le (by omega), List.drop_eq_nil_of_le (by omega)]
  rfl

/-- what was kept apart, all of it -/
theorem ownFK_sound (pf : PreFacts B all plan Φ 0 p sig frl gd sv fr) (h0 : frl 0 = []) (hpl : ∀ (i : Nat) (o : Oper), all[i]? = some o → PlanAt all plan i o) (hlen : plan.length = all.length) :
    ∀ (i : Nat), i ≤ p → ∀ {K : Env → Phi → Nat → Prop} {σp : Env}, ownFK (frl i) σp Φ n K → ∃ σ1 Φ1 n1, K σ1 Φ1 n1 ∧ (∀ D, GdIn D σp → GdIn D σ1) ∧
      ∀ {S : Nat → Prop} {b : Act} {w : World} {r' x βf}, PI r β Φ w0 all plan p gd sv fr S b w r' x βf → (∀ (j : Nat), j < p → plan[j]? ≠ some 0 → S j) → Agree r' β σp b.tmps →
        (∀ id ch bb, Phi.get Φ id = some ch → ch.blk (β id) = some bb → bb < w0.heap.size) →
        ∃ β1, Agree r' β1 σ1 b.tmps ∧ MemSat r' β1 Φ1 w ∧ Keep β Φ β1 Φ1 ∧
          ∀ id ch bb, Phi.get Φ1 id = some ch → ch.blk (β1 id) = some bb → (∃ id' c, Phi.get Φ id' = some c ∧ c.blk (β id') = some bb) ∨ ∃ i' j c, i' < i ∧ plan[i']? = some 2 ∧ Phi.get (fr i').2 j = some c ∧ c.blk (βf i' j) = some bb := by
  intro i
  induction i with
  | zero =>
    intro _ K σp h
    rw [h0] at h
    exact ⟨σp, Φ, n, h, fun D hD => hD, fun {S b w r' x βf} hPI hS ha hb => ⟨β, ha, hPI.mem, Keep.refl _ _, fun id ch bb q1 q2 => .inl ⟨id, ch, q1, q2⟩⟩⟩
  | succ i ih =>
    intro hi K σp h
    have hil : i < all.length := by have := pf.pl; omega
    have ho : all[i]? = some all[i] := List.getElem?_eq_getElem hil
    have same : frl (i + 1) = frl i → ∃ σ1 Φ1 n1, K σ1 Φ1 n1 ∧ (∀ D, GdIn D σp → GdIn D σ1) ∧
      ∀ {S : Nat → Prop} {b : Act} {w : World} {r' x βf}, PI r β Φ w0 all plan p gd sv fr S b w r' x βf → (∀ (j : Nat), j < p → plan[j]? ≠ some 0 → S j) → Agree r' β σp b.tmps →
        (∀ id ch bb, Phi.get Φ id = some ch → ch.blk (β id) = some bb → bb < w0.heap.size) →
        ∃ β1, Agree r' β1 σ1 b.tmps ∧ MemSat r' β1 Φ1 w ∧ Keep β Φ β1 Φ1 ∧
          ∀ id ch bb, Phi.get Φ1 id = some ch → ch.blk (β1 id) = some bb → (∃ id' c, Phi.get Φ id' = some c ∧ c.blk (β id') = some bb) ∨ ∃ i' j c, i' < i + 1 ∧ plan[i']? = some 2 ∧ Phi.get (fr i').2 j = some c ∧ c.blk (βf i' j) = some bb := by
      intro he
      rw [he] at h
      obtain ⟨σ1, Φ1, n1, hk, hD, hsem⟩ := ih (by omega) h
      refine ⟨σ1, Φ1, n1, hk, hD, fun {S b w r' x βf} hPI hS ha hb => ?_⟩
      obtain ⟨β1, g1, g2, g3, g4⟩ := hsem hPI hS ha hb
      refine ⟨β1, g1, g2, g3, fun id ch bb q1 q2 => ?_⟩
      rcases g4 id ch bb q1 q2 with h | ⟨i', j, c, a1, a2⟩
      · exact .inl h
      · exact .inr ⟨i', j, c, by omega, a2⟩
    cases hpl i _ ho with
    | t d hq => exact same (pf.stepT i (by omega) (by omega) hq).2
    | q hq => exact same (pf.step1 i _ (by omega) (by omega) hq ho).2.1
    | s hq => exact absurd hq (pf.no3 i (by omega) (by omega))
    | f d hq _ _ hd =>
      obtain ⟨_, he, _⟩ := pf.step2 i _ d (by omega) (by omega) hq ho hd
      rw [he] at h
      have h : ownFK (frl i) σp Φ n fun σ Φ n => afterK [] (fr i).1 (fr i).2 σ Φ n fun sv σ Φ n => K ((d, none, sv) :: σ) Φ n := h
      obtain ⟨σ1, Φ1, n1, h, hD, hsem⟩ := ih (by omega) h
      obtain ⟨res', Φ2, n2, hk, haft⟩ := after0_sound h
      refine ⟨_, Φ2, n2, hk, fun D h0 k s wv sv' hg => ?_, fun {S b w r' x βf} hPI hS ha hb => ?_⟩
      · rw [get_cons] at hg
        cases hbq : Nat.beq d k with
        | true => rw [hbq] at hg; simp at hg
        | false => rw [hbq] at hg; exact hD D h0 k s wv sv' hg
      · obtain ⟨β1, g1, g2, g3, g4⟩ := hsem hPI hS ha hb
        have hSi : S i := hS i (by omega) (by rw [hq]; simp)
        obtain ⟨f1, f2, f3, f4⟩ := hPI.frs i _ d hSi hq ho hd
        obtain ⟨β2, q1, q2, q3, q4, q5⟩ := haft r' β1 (βf i) w (x i) g2 f3 (fun id ch j ch' bb a1 a2 a3 a4 => by
          rcases g4 id ch bb a1 a2 with ⟨id', c, c1, c2⟩ | ⟨i', j', c, c0, c1, c2, c3⟩
          · have := hb id' c bb c1 c2
            have := f4 j ch' bb a3 a4
            omega
          · exact hPI.dis i' i j' c j ch' bb (hS i' (by omega) (by rw [c1]; simp)) hSi c1 hq (by omega) c2 c3 a3 a4) f2
        refine ⟨β2, fun k g sv' hg => ?_, q2, g3.trans q3, fun id ch bb a1 a2 => ?_⟩
        · rw [get_cons] at hg
          cases hbq : Nat.beq d k with
          | true =>
            obtain rfl := beq_of hbq
            rw [hbq] at hg
            simp only [cond_true, Option.some.injEq, Prod.mk.injEq] at hg
            obtain ⟨rfl, rfl⟩ := hg
            exact ⟨x i, f1, q1⟩
          | false =>
            rw [hbq] at hg
            have hg : Env.get σ1 k = some (g, sv') := hg
            have := g1 k g sv' hg
            cases g with
            | none => obtain ⟨u, p1, p2⟩ := this; exact ⟨u, p1, q4 k none sv' hg u p2⟩
            | some pr => obtain ⟨s', w''⟩ := pr; exact ⟨fun hs => by obtain ⟨u, p1, p2⟩ := this.1 hs; exact ⟨u, p1, q4 k _ sv' hg u p2⟩, this.2⟩
        · rcases q5 id ch bb a1 a2 with ⟨id', c, c1, c2⟩ | ⟨j, c, c1, c2⟩
          · rcases g4 id' c bb c1 c2 with hh | ⟨i', j', c', z0, z1, z2⟩
            · exact .inl hh
            · exact .inr ⟨i', j', c', by omega, z1, z2⟩
          · exact .inr ⟨i, j, c, by omega, hq, c1, c2⟩
end
end Go.Vc
