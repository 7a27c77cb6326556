/- A part of the proof: lemmas and walks that the last text of the claim joins; no condition. -/
import Derived.Test.YtfjggnjfifbbgaaVcE4
namespace Go.Vc
set_option autoImplicit false
set_option linter.unusedVariables false

theorem vcOp_sound {B : Base} {e N r β σ Φ a w n op} {K : EK} (h : vcOp B op σ Φ n K) (s : Sat B e N r β σ Φ a w)
    {next : Act → World → Prop} {Q : Exit → Act → World → Prop} {dst ty pos after guard}
    (hn : ∀ sv σ' Φ' n' v r' β' w', K sv σ' Φ' n' → Rel r' β' sv v → Sat B e N r' β' σ' Φ' a w' → (∀ D, GdIn D σ → GdIn D σ') → next (a.put dst v) w') :
    (⟨dst, op, ty, pos, after, guard⟩ : Oper).wp B.P a w next Q := by
  unfold vcOp at h
  split at h
  · rename_i t
    obtain ⟨l, z, hk, ho, _, hz, hl⟩ := zeroK_sound h
    obtain ⟨sv, σ', Φ', n', hk2, rfl, β', hr, s'⟩ := newK_sound hk s t z.cells (hl r β)
    unfold Oper.wp
    have : (execOp a.eval ⟨dst, .alloc t, ty, pos, after, guard⟩).run B.P w = .ok (.value (.pointer (some ⟨w.heap.size, 0, none⟩))) { w with heap := w.heap.push (.cells z.cells t) } := by
      simp only [execOp, Instr.alloc, Sem.run_bind, hz, Result.andThen_ok, newVar, newRow, run_newObj, Sem.run_pure]
    rw [this]
    exact hn _ _ _ _ _ _ _ _ hk2 hr s' (fun _ h => h)
  · rename_i t x
    obtain ⟨sx, h, hx⟩ := opK_sound h
    obtain ⟨l, hk, ho, _, hl⟩ := cellsK_sound h
    obtain ⟨sv, σ', Φ', n', hk2, rfl, β', hr, s'⟩ := newK_sound hk s t (a.eval x).cells (hl r β _ (hx r β a _ (Sm.plain s.agree)))
    unfold Oper.wp
    have : (execOp a.eval ⟨dst, .box t x, ty, pos, after, guard⟩).run B.P w = .ok (.value (.pointer (some ⟨w.heap.size, 0, none⟩))) { w with heap := w.heap.push (.cells (a.eval x).cells t) } := by
      simp only [execOp, Instr.box, Sem.run_bind, Result.andThen_ok, newVar, newRow, run_newObj, Sem.run_pure]
    rw [this]
    exact hn _ _ _ _ _ _ _ _ hk2 hr s' (fun _ h => h)
  · -- store
    rename_i t p x
    obtain ⟨sp, h, hp⟩ := opK_sound h
    obtain ⟨sx, h, hx⟩ := opK_sound h
    obtain ⟨sv, Φ', w', hk, hrun, rfl, s'⟩ := storeK_sound h s (hp r β a _ (Sm.plain s.agree)) (hx r β a _ (Sm.plain s.agree))
    unfold Oper.wp
    have : (execOp a.eval ⟨dst, .store t p x, ty, pos, after, guard⟩).run B.P w = .ok .skip w' := by
      simp only [execOp, Sem.run_bind, hrun, Result.andThen_ok, Sem.run_pure]
    rw [this]
    exact hn _ _ _ _ _ _ _ _ hk .und s' (fun _ h => h)
  · -- buildSlice
    rename_i t ln parts
    obtain ⟨sv, v, w', r', hk, hrun, hr, s'⟩ := buildSliceK_sound h s
    unfold Oper.wp
    have : (execOp a.eval ⟨dst, .buildSlice t ln ⟨parts⟩, ty, pos, after, guard⟩).run B.P w = .ok (.value v) w' := by
      have e : (Array.map (fun (x : Nat × Operand) => (x.1, a.eval x.2)) ⟨parts⟩) = (parts.map fun (i, x) => (i, a.eval x)).toArray := by simp
      simp only [execOp, Sem.run_bind]
      rw [e, hrun]; rfl
    rw [this]
    exact hn _ _ _ _ _ _ _ _ hk hr s' (fun _ h => h)
  · -- makeSlice
    rename_i t l c
    obtain ⟨sl, h, hl⟩ := opK_sound h
    obtain ⟨sc, h, hc⟩ := opK_sound h
    obtain ⟨sv, Φ', n', v, w', β', hk, hrun, hr, s'⟩ := makeSliceK_sound h s (hl r β a _ (Sm.plain s.agree)) (hc r β a _ (Sm.plain s.agree))
    unfold Oper.wp
    have : (execOp a.eval ⟨dst, .makeSlice t l c, ty, pos, after, guard⟩).run B.P w = .ok (.value v) w' := by
      simp only [execOp, Sem.run_bind, hrun, Result.andThen_ok, Sem.run_pure]
    rw [this]
    exact hn _ _ _ _ _ _ _ _ hk hr s' (fun _ h => h)
  · -- range
    rename_i t x
    obtain ⟨sx, h, hx⟩ := opK_sound h
    obtain ⟨sv, Φ', n', v, w', β', hk, hrun, hr, s'⟩ := rangeK_sound h s (hx r β a _ (Sm.plain s.agree))
    unfold Oper.wp
    have : (execOp a.eval ⟨dst, .range t x, ty, pos, after, guard⟩).run B.P w = .ok (.value v) w' := by
      simp only [execOp, Sem.run_bind, hrun, Result.andThen_ok, Sem.run_pure]
    rw [this]
    exact hn _ _ _ _ _ _ _ _ hk hr s' (fun _ h => h)
  · -- next
    rename_i x is
    obtain ⟨sx, h, hx⟩ := opK_sound h
    obtain ⟨sv, Φ', n', v, w', hk, hrun, hr, s'⟩ := nextK_sound (ty := ty) h s (hx r β a _ (Sm.plain s.agree))
    unfold Oper.wp
    have : (execOp a.eval ⟨dst, .next x is, ty, pos, after, guard⟩).run B.P w = .ok (.value v) w' := by
      simp only [execOp, Sem.run_bind, hrun, Result.andThen_ok, Sem.run_pure]
    rw [this]
    exact hn _ _ _ _ _ _ _ _ hk hr s' (fun _ h => h)
  · -- append
    rename_i sl x ts tx
    obtain ⟨ss, h, hs⟩ := opK_sound h
    obtain ⟨sx, h, hx⟩ := opK_sound h
    obtain ⟨sv, σ', Φ', n', v, w', β', hk, hrun, hr, s', hD⟩ := appendK_sound (ty := ty) h s (hs r β a _ (Sm.plain s.agree)) (hx r β a _ (Sm.plain s.agree))
    unfold Oper.wp
    have : (execOp a.eval ⟨dst, .call ⟨.builtin .append, ⟨[sl, x]⟩, ⟨[ts, tx]⟩⟩, ty, pos, after, guard⟩).run B.P w = .ok (.value v) w' := by
      simp only [execOp, resolve, Sem.run_bind, Sem.run_pure, Result.andThen_ok, invoke, builtin]
      rw [show Array.map a.eval ⟨[sl, x]⟩ = #[a.eval sl, a.eval x] by simp]
      rw [hrun]; rfl
    rw [this]
    exact hn _ _ _ _ _ _ _ _ hk hr s' hD
  · obtain ⟨sv, hk, hop⟩ := evK_sound h (fun _ => ⟨r, β, a, w, Sm.plain s.agree, s.mem⟩)
    exact (hop r β a w (Sm.plain s.agree) s.G s.mem dst ty pos after guard).wp s fun v r' w' hr hle s' => hn _ _ _ _ _ _ _ _ hk hr s' (fun _ h => h)

theorem dstOf_spec {all : List Oper} {j s : Nat} (h : dstOf all j = some s) : ∃ o, all[j]? = some o ∧ o.dst = some s := by
  unfold dstOf at h
  rw [nth_eq] at h
  split at h
  · exact ⟨_, by assumption, h⟩
  · cases h
theorem yielded_of {all : List Oper} {j s : Nat} (h : dstOf all j = some s) (t : Array Value) (w : Bool) : (yielded all.toArray t j == some w) = true ↔ t[s]? = some (.bool w) := by
  obtain ⟨o, h1, h2⟩ := dstOf_spec h
  unfold yielded
  simp only [List.getElem?_toArray, h1, Option.bind_some, h2]
  cases hq : t[s]? with
  | none => simp
  | some v => cases v <;> simp

structure RegOk (N : Nat) (all : List Oper) : Prop where
  lt : ∀ o ∈ all, ∀ d, o.dst = some d → d < N
  nodup : (dsts all).Nodup
  before : ∀ (i : Nat) (o : Oper), all[i]? = some o → ∀ j w, o.guard = some (j, w) → j < i

theorem notDst_spec {d : Nat} {l : List Oper} (h : notDst d l = true) : d ∉ dsts l := by
  induction l with
  | nil => simp [dsts]
  | cons o r ih =>
    simp only [notDst, Bool.and_eq_true] at h
    have := ih h.2
    cases hd : o.dst with
    | none => simp only [dsts, List.filterMap_cons, hd]; exact this
    | some d' =>
      simp only [dsts, List.filterMap_cons, hd, List.mem_cons, not_or]
      refine ⟨?_, this⟩
      rintro rfl
      have h1 := h.1
      rw [hd] at h1
      simp [Nat.beq_refl] at h1
theorem regOk_of {N : Nat} {all : List Oper} (h1 : allDst N all = true) (h2 : distinctDst all = true) (h3 : guardsOk 0 all = true) : RegOk N all := by
  refine ⟨?_, ?_, ?_⟩
  · clear h2 h3
    induction all with
    | nil => intro o ho; cases ho
    | cons x r ih =>
      simp only [allDst, Bool.and_eq_true] at h1
      intro o ho d hd
      cases ho with
      | head =>
        have := h1.1
        rw [hd] at this
        exact (Nat.blt_eq ▸ this : _ < _)
      | tail _ ho => exact ih h1.2 o ho d hd
  · clear h1 h3
    induction all with
    | nil => exact List.nodup_nil
    | cons x r ih =>
      simp only [distinctDst, Bool.and_eq_true] at h2
      have := ih h2.2
      cases hd : x.dst with
      | none => simp only [dsts, List.filterMap_cons, hd]; exact this
      | some d =>
        simp only [dsts, List.filterMap_cons, hd]
        have h := h2.1
        rw [hd] at h
        exact List.nodup_cons.2 ⟨notDst_spec h, this⟩
  · clear h1 h2
    have gen : ∀ (l : List Oper) (k : Nat), guardsOk k l = true → ∀ (i : Nat) (o : Oper), l[i]? = some o → ∀ j w, o.guard = some (j, w) → j < k + i := by
      intro l
      induction l with
      | nil => intro k _ i o hi; simp at hi
      | cons x r ih =>
        intro k h i o hi j w hg
        simp only [guardsOk, Bool.and_eq_true] at h
        cases i with
        | zero =>
          simp at hi; subst hi
          have := h.1
          rw [hg] at this
          simpa [Nat.blt_eq] using this
        | succ i =>
          have := ih (k + 1) h.2 i o (by simpa using hi) j w hg
          omega
    intro i o hi j w hg
    have := gen all 0 h3 i o hi j w hg
    omega

theorem RegOk.split {N all pre o rest} (h : RegOk N all) (he : all = pre ++ o :: rest) {d} (hd : o.dst = some d) : d ∉ dsts pre ∧ d < N ∧ dsts (pre ++ [o]) = dsts pre ++ [d] := by
  subst he
  refine ⟨?_, h.lt o (by simp) d hd, by simp [dsts, hd]⟩
  have := h.nodup
  simp only [dsts, List.filterMap_append, List.filterMap_cons, hd] at this
  rw [List.nodup_append] at this
  intro hm
  exact this.2.2 d hm d (by simp) rfl

theorem dst_before {all pre rest : List Oper} {o : Oper} {j s : Nat} (he : all = pre ++ o :: rest) (hj : j < pre.length) (h : dstOf all j = some s) : s ∈ dsts pre := by
  obtain ⟨o', h1, h2⟩ := dstOf_spec h
  subst he
  rw [List.getElem?_append_left hj] at h1
  exact List.mem_filterMap.2 ⟨o', List.mem_of_getElem? h1, h2⟩

theorem Sat.put {B : Base} {e N r β σ Φ a w D} (s : Sat B e N r β σ Φ a w) (hgd : GdIn D σ) {dst : Option Nat} {gd : Option (Nat × Bool)} {sv : SV} {v : Value}
    (hd : ∀ d, dst = some d → d ∉ D ∧ d < N)
    (hv : match gd with | none => Rel r β sv v | some (s, w) => s ∈ D ∧ (a.tmps[s]? = some (.bool w) → Rel r β sv v) ∧ (a.tmps[s]? ≠ some (.bool w) → v = undef)) :
    Sat B e N r β (putE dst gd sv σ) Φ (a.put dst v) w := by
  cases dst with
  | none => exact s
  | some d =>
    obtain ⟨h1, h2⟩ := hd d rfl
    refine ⟨?_, s.mem, s.G, s.le, s.hid, s.defers, by rw [put_size]; exact s.size⟩
    refine s.agree.put hgd h1 (by rw [s.size]; exact h2) ?_
    cases gd with
    | none => exact hv
    | some p => exact ⟨fun hq => h1 (hq ▸ hv.1), hv.2⟩

theorem putE_gd {D : List Nat} {σ : Env} {o : Oper} {pre : List Oper} (hgd : GdIn (dsts pre) σ) {gd : Option (Nat × Bool)} {sv : SV} (hg : ∀ s w, gd = some (s, w) → s ∈ dsts pre) :
    GdIn (dsts (pre ++ [o])) (putE o.dst gd sv σ) := by
  have e : dsts (pre ++ [o]) = dsts pre ++ dsts [o] := by simp [dsts]
  rw [e]
  cases hd : o.dst with
  | none => exact hgd.more _
  | some d => exact hgd.put hg _

theorem vcOps_sound {B : Base} {e N all} (ok : RegOk N all) {K : Env → Phi → Nat → Prop} {Q : Exit → Act → World → Prop}
    (hQ : ∀ r β σ Φ n a w, K σ Φ n → Sat B e N r β σ Φ a w → Q .normal a w) :
    ∀ (l pre : List Oper), all = pre ++ l → ∀ r β σ Φ n a w, vcOps B false all l σ Φ n K → Sat B e N r β σ Φ a w → GdIn (dsts pre) σ →
      wpList B.P all.toArray Q l a w := by
  intro l
  induction l with
  | nil => intro pre he r β σ Φ n a w h s hgd; exact hQ _ _ _ _ _ _ _ h s
  | cons o rest ih =>
    intro pre he r β σ Φ n a w h s hgd
    have he' : all = (pre ++ [o]) ++ rest := by rw [he]; simp
    have hd : ∀ d, o.dst = some d → d ∉ dsts pre ∧ d < N := fun d hd => ⟨(ok.split he hd).1, (ok.split he hd).2.1⟩
    obtain ⟨dst, op, ty, pos, after, guard⟩ := o
    simp only [vcOps] at h
    split at h
    · -- no guard
      simp only [cond_false] at h
      unfold wpList
      rw [if_pos (by simp [Region.wanted])]
      refine .inl (vcOp_sound h s fun sv σ' Φ' n' v r' β' w' hk hr s' hD => ?_)
      refine ih (pre ++ [_]) he' r' β' _ Φ' n' _ w' hk (s'.put (hD _ hgd) hd hr) ?_
      exact putE_gd (D := []) (o := ⟨dst, op, ty, pos, after, none⟩) (hD _ hgd) (fun s w h => by cases h)
    · rename_i j wv
      split at h
      · rename_i sl hs
        obtain ⟨ctx, g, h, hsm⟩ := ctxK_sound h
        obtain ⟨sv, hk, hop⟩ := evK_sound h (fun hq => by cases hq)
        have hin : sl ∈ dsts pre := dst_before he (by
          have := ok.before pre.length ⟨dst, op, ty, pos, after, some (j, wv)⟩ (by rw [he]; simp) j wv rfl
          exact this) hs
        have hgd' : GdIn (dsts (pre ++ [(⟨dst, op, ty, pos, after, some (j, wv)⟩ : Oper)])) (putE dst (some (sl, wv)) sv σ) :=
          putE_gd (D := []) (o := ⟨dst, op, ty, pos, after, some (j, wv)⟩) hgd (fun s w h => by cases h; exact hin)
        have hw : Region.wanted ⟨dst, op, ty, pos, after, some (j, wv)⟩ (yielded all.toArray a.tmps) = (yielded all.toArray a.tmps j == some wv) := rfl
        unfold wpList
        rw [hw]
        by_cases ht : a.tmps[sl]? = some (.bool wv)
        · rw [if_pos ((yielded_of hs a.tmps wv).2 ht)]
          refine .inl ((hop r β a w (hsm r β a.tmps s.agree ht) s.G s.mem dst ty pos after _).wp s fun v r' w' hr hle s' => ?_)
          exact ih (pre ++ [_]) he' r' β _ Φ n _ w' hk (s'.put hgd hd ⟨hin, fun _ => hr, fun h => (h ht).elim⟩) hgd'
        · rw [if_neg (fun hc => ht ((yielded_of hs a.tmps wv).1 hc))]
          exact ih (pre ++ [_]) he' r β _ Φ n _ w hk (s.put hgd hd ⟨hin, fun h => (ht h).elim, fun _ => rfl⟩) hgd'
      · exact h.elim

/-- the same where the order is drawn -/
theorem vcOps_quiet {B : Base} {e N all} (ok : RegOk N all) {K : Env → Phi → Nat → Prop} {r : Mem} {β : Bind} {Φ : Phi} {n : Nat} {w0 : World} {C : World → Prop}
    (hC : C = Near r β Φ w0) {Q : Act → Prop}
    (hQ : ∀ σ a, K σ Φ n → Sat B e N r β σ Φ a w0 → Q a) :
    ∀ (l pre : List Oper), all = pre ++ l → ∀ σ a, vcOps B true all l σ Φ n K → Sat B e N r β σ Φ a w0 → GdIn (dsts pre) σ →
      wpQuiet B.P all.toArray C Q l a := by
  intro l
  induction l with
  | nil => intro pre he σ a h s hgd; exact hQ _ _ h s
  | cons o rest ih =>
    intro pre he σ a h s hgd
    have he' : all = (pre ++ [o]) ++ rest := by rw [he]; simp
    have hd : ∀ d, o.dst = some d → d ∉ dsts pre ∧ d < N := fun d hd => ⟨(ok.split he hd).1, (ok.split he hd).2.1⟩
    have quiet : ∀ {sv : SV}, OpOk B true r β Φ w0 a o sv → (∀ v, Rel r β sv v → wpQuiet B.P all.toArray C Q rest (a.put o.dst v)) → o.quiet B.P a C (wpQuiet B.P all.toArray C Q rest) := by
      intro sv hop hn
      cases hop with
      | val v hr hw =>
        refine ⟨v, fun w hw' => ?_, hn v hr⟩
        unfold Oper.quietAt
        rw [hw w (hC ▸ hw')]
        exact ⟨rfl, rfl⟩
      | callQ v hr hw =>
        refine ⟨v, fun w hw' => ?_, hn v hr⟩
        obtain ⟨f, args, h1, h2⟩ := hw w (hC ▸ hw')
        unfold Oper.quietAt
        rw [h1]
        refine ⟨rfl, h2.mono fun e' w'' ⟨q1, q2⟩ => ⟨q1, ?_⟩⟩
        rw [hC]; exact q2
      | callG hq => cases hq
    obtain ⟨dst, op, ty, pos, after, guard⟩ := o
    simp only [vcOps] at h
    unfold wpQuiet
    split at h
    · simp only [cond_true] at h
      rw [if_pos (by simp [Region.wanted])]
      obtain ⟨sv, hk, hop⟩ := evK_sound h (fun _ => ⟨r, β, a, w0, Sm.plain s.agree, s.mem⟩)
      refine quiet (hop r β a w0 (Sm.plain s.agree) s.G s.mem dst ty pos after _) fun v hr => ?_
      refine ih (pre ++ [_]) he' _ _ hk (s.put hgd hd hr) ?_
      exact putE_gd (D := []) (o := ⟨dst, op, ty, pos, after, none⟩) hgd (fun s w h => by cases h)
    · rename_i j wv
      split at h
      · rename_i sl hs
        obtain ⟨ctx, g, h, hsm⟩ := ctxK_sound h
        obtain ⟨sv, hk, hop⟩ := evK_sound h (fun hq => by cases hq)
        have hin : sl ∈ dsts pre := dst_before he (by
          have := ok.before pre.length ⟨dst, op, ty, pos, after, some (j, wv)⟩ (by rw [he]; simp) j wv rfl
          exact this) hs
        have hgd' : GdIn (dsts (pre ++ [(⟨dst, op, ty, pos, after, some (j, wv)⟩ : Oper)])) (putE dst (some (sl, wv)) sv σ) :=
          putE_gd (D := []) (o := ⟨dst, op, ty, pos, after, some (j, wv)⟩) hgd (fun s w h => by cases h; exact hin)
        have hw : Region.wanted ⟨dst, op, ty, pos, after, some (j, wv)⟩ (yielded all.toArray a.tmps) = (yielded all.toArray a.tmps j == some wv) := rfl
        rw [hw]
        by_cases ht : a.tmps[sl]? = some (.bool wv)
        · rw [if_pos ((yielded_of hs a.tmps wv).2 ht)]
          refine quiet (hop r β a w0 (hsm r β a.tmps s.agree ht) s.G s.mem dst ty pos after _) fun v hr => ?_
          exact ih (pre ++ [_]) he' _ _ hk (s.put hgd hd ⟨hin, fun _ => hr, fun h => (h ht).elim⟩) hgd'
        · rw [if_neg (fun hc => ht ((yielded_of hs a.tmps wv).1 hc))]
          exact ih (pre ++ [_]) he' _ _ hk (s.put hgd hd ⟨hin, fun h => (ht h).elim, fun _ => rfl⟩) hgd'
      · exact h.elim

end Go.Vc
