/- A part of the proof: lemmas and walks that the last text of the claim joins; no condition. -/
import Derived.Test.YtfjggnjfifbbgaaVcS3
namespace Go.Vc
set_option autoImplicit false
set_option linter.unusedVariables false

theorem Rel.oneCell {r β sv v} (h : Rel r β sv v) (ho : sv.one = true) : v.oneCell' = true := by
  induction h with
  | rd _ ih => exact ih rfl
  | v => exact ho
  | own h => exact h
  | agg => cases ho
  | tup => cases ho
  | und => cases ho
  | _ => rfl

theorem MemSat.rows {r β Φ w id} {ch : Chunk} (m : MemSat r β Φ w) (h : Phi.get Φ id = some ch) : ch.Sat r β w (β id) := m.chs _ _ h

theorem RowsAt.slice {r w x sz rows} (h : RowsAt r w x sz rows) : ∃ a cap, x = .slice a rows.length cap ∧ rows.length ≤ cap ∧ rows.length ≤ 9223372036854775807 := by
  rcases h with ⟨a, rfl, rfl⟩ | ⟨b, off, cap, c, T, fr, rfl, _, _, _, h1, h2, _⟩
  · exact ⟨a, 0, rfl, by simp, by simp⟩
  · exact ⟨_, _, rfl, h2, h1⟩

theorem run_len_slice {P : Program} {t e : TypeId} (hu : P.underlying t = some (.slice e)) (a : Option Addr) (n cap : Nat) (ty : TypeId) (w : World) :
    (Builtin.len_ #[t] ty #[.slice a n cap]).run P w = .ok (.int .i64 n) w := by
  simp [Builtin.len_, run_underlying hu, goInt]

theorem lenK_sound {ung : Bool} {n : Nat} {K : SV → Prop} (h : lenK ung n K) (hp : ung = true → n ≤ 9223372036854775807) : K (.int .i64 n) := by
  cases ung with
  | true => exact h (hp rfl)
  | false => exact h

theorem evLen_sound {P : Program} {Φ : Phi} {t x ung} {K : SV → Prop} (h : evLen P Φ t x ung K) (hp : ung = true → ∃ r β vx w, Rel r β x vx ∧ MemSat r β Φ w) :
    ∃ sv, K sv ∧ ∀ r β vx, Rel r β x vx → ∃ v, Rel r β sv v ∧ ∀ w ty, MemSat r β Φ w → (Builtin.len_ #[t] ty #[vx]).run P w = .ok v w := by
  unfold evLen at h
  split at h
  · rename_i l hu
    have h := lenK_sound h (fun hq => by obtain ⟨r, β, vx, w, hx, _⟩ := hp hq; cases hx; assumption)
    refine ⟨_, h, fun r β vx hx => ?_⟩
    cases hx
    have hz : (ByteArray.mk l.toArray).size = l.length := by simp [ByteArray.size]
    exact ⟨_, .int, fun w ty _ => by
      simp only [Builtin.len_, List.getElem?_toArray, List.getElem?_cons_zero, Sem.run_bind, run_underlying hu, Result.andThen_ok, Sem.run_pure, goInt, hz]⟩
  · rename_i e α sz d enc l hu
    have h := lenK_sound h (fun hq => by
      obtain ⟨r, β, vx, w, hx, _⟩ := hp hq
      cases hx with
      | rd hx => obtain ⟨_, _, _, _, h⟩ := hx.lits_slice; simpa using h)
    refine ⟨_, h, fun r β vx hx => ?_⟩
    cases hx with
    | rd hx =>
      obtain ⟨a, cap, rfl, _⟩ := hx.lits_slice
      exact ⟨_, .int, fun w ty _ => by rw [run_len_slice hu]; simp⟩
  · rename_i e sz rows hu
    have h := lenK_sound h (fun hq => by
      obtain ⟨r, β, vx, w, hx, _⟩ := hp hq
      obtain ⟨_, _, _, _, h⟩ := hx.lits_slice; exact h)
    refine ⟨_, h, fun r β vx hx => ?_⟩
    obtain ⟨a, cap, rfl, _⟩ := hx.lits_slice
    exact ⟨_, .int, fun w ty _ => by rw [run_len_slice hu]⟩
  · rename_i e hu
    refine ⟨_, h, fun r β vx hx => ?_⟩
    cases hx
    exact ⟨_, .int, fun w ty _ => by rw [run_len_slice hu]; rfl⟩
  · rename_i e id hu
    split at h
    · rename_i α sz d enc l hg
      have h := lenK_sound h (fun hq => by
        obtain ⟨r, β, vx, w, hx, m⟩ := hp hq
        have hs := m.rows hg
        cases hs with
        | own hs => obtain ⟨_, _, _, _, h⟩ := hs.slice; simpa using h)
      refine ⟨_, h, fun r β vx hx => ?_⟩
      cases hx
      refine ⟨.int .i64 l.length, .int, fun w ty m => ?_⟩
      have hs := m.rows hg
      cases hs with
      | own hs => obtain ⟨a, cap, he, _⟩ := hs.slice; rw [he, run_len_slice hu]; simp
    · rename_i sz rows hg
      have h := lenK_sound h (fun hq => by
        obtain ⟨r, β, vx, w, hx, m⟩ := hp hq
        have hs := m.rows hg
        cases hs with
        | ownl hs => obtain ⟨_, _, _, _, h⟩ := hs.slice; exact h)
      refine ⟨_, h, fun r β vx hx => ?_⟩
      cases hx
      refine ⟨.int .i64 rows.length, .int, fun w ty m => ?_⟩
      have hs := m.rows hg
      cases hs with
      | ownl hs => obtain ⟨a, cap, he, _⟩ := hs.slice; rw [he, run_len_slice hu]
    · exact h.elim
  · exact h.elim

theorem minmaxK_sound {mx : Bool} {xs : List SV} : ∀ {x : SV} {K : SV → Prop}, minmaxK mx x xs K →
    ∃ sv, K sv ∧ ∀ r β vx (vs : List Value), Rel r β x vx → RelL r β xs vs → ∃ v, Rel r β sv v ∧ ∀ (P : Program) w, (vs.foldlM (if mx then Builtin.max2 else Builtin.min2) vx).run P w = .ok v w := by
  induction xs with
  | nil =>
    intro x K h
    cases x <;> simp only [minmaxK] at h <;> (refine ⟨_, h, fun r β vx vs hx hl => ?_⟩; obtain ⟨h1, _⟩ := hl; obtain rfl : vs = [] := List.length_eq_zero_iff.1 (by simpa using h1); exact ⟨_, hx, fun P w => rfl⟩)
  | cons y ys ih =>
    intro x K h
    cases x <;> cases y <;> simp only [minmaxK] at h
    rename_i k a k' b
    obtain ⟨sv, hk, hr⟩ := ih h
    refine ⟨sv, hk, fun r β vx vs hx hl => ?_⟩
    cases hx
    obtain ⟨h1, h2⟩ := hl
    cases vs with
    | nil => simp at h1
    | cons v vs =>
      have hv := h2 0 _ v rfl rfl
      cases hv
      obtain ⟨u, hu, hw⟩ := hr r β (.int k (bif mx then max a b else min a b)) vs .int ⟨by simpa using h1, fun i sv v q1 q2 => h2 (i + 1) sv v (by simpa using q1) (by simpa using q2)⟩
      refine ⟨u, hu, fun P w => ?_⟩
      have hm : ((if mx = true then Builtin.max2 else Builtin.min2) (.int k a) (.int k' b)).run P w = .ok (.int k (bif mx then max a b else min a b)) w := by
        cases mx
        · simp only [Builtin.min2, cond_false, Bool.false_eq_true, if_false, Sem.run_pure]
          congr 2
          omega
        · simp only [Builtin.max2, cond_true, if_true, Sem.run_pure]
          congr 2
          omega
      simp only [List.foldlM_cons, Sem.run_bind, hm, Result.andThen_ok]
      exact hw P w

theorem evBuiltin_sound {P : Program} {Φ : Phi} {b ts xs ung} {K : SV → Prop} (h : evBuiltin P Φ b ts xs ung K) (hp : ung = true → ∃ r β vs w, RelL r β xs vs ∧ MemSat r β Φ w) :
    ∃ sv, K sv ∧ ∀ r β vs, RelL r β xs vs → ∃ v, Rel r β sv v ∧ ∀ w ty cs, MemSat r β Φ w → (Go.builtin b ts.toArray ty cs vs.toArray).run P w = .ok (.value v) w := by
  have single : ∀ {x : SV} {r β vs}, RelL r β [x] vs → ∃ v, vs = [v] ∧ Rel r β x v := by
    intro x r β vs ⟨h1, h2⟩
    match vs, h1 with
    | [v], _ => exact ⟨v, rfl, h2 0 x v rfl rfl⟩
  have head : ∀ {x : SV} {l r β vs}, RelL r β (x :: l) vs → ∃ v us, vs = v :: us ∧ Rel r β x v ∧ RelL r β l us := by
    intro x l r β vs ⟨h1, h2⟩
    match vs, h1 with
    | v :: us, h1 => exact ⟨v, us, rfl, h2 0 x v rfl rfl, by simpa using h1, fun i sv v q1 q2 => h2 (i + 1) sv v (by simpa using q1) (by simpa using q2)⟩
  unfold evBuiltin at h
  split at h
  · rename_i t ts x
    obtain ⟨sv, hk, hr⟩ := evLen_sound h (fun hq => by
      obtain ⟨r, β, vs, w, h1, h2⟩ := hp hq
      obtain ⟨v, rfl, hv⟩ := single h1
      exact ⟨r, β, v, w, hv, h2⟩)
    refine ⟨sv, hk, fun r β vs hl => ?_⟩
    obtain ⟨v, rfl, hv⟩ := single hl
    obtain ⟨u, hu, hw⟩ := hr r β v hv
    refine ⟨u, hu, fun w ty cs m => ?_⟩
    have := hw w ty m
    have he : ∀ tt, Builtin.len_ tt ty [v].toArray = Builtin.len_ tt ty #[v] := fun _ => rfl
    have hl : Builtin.len_ (t :: ts).toArray ty #[v] = Builtin.len_ #[t] ty #[v] := by simp [Builtin.len_]
    show Sem.run P (do pure (Next.value (← Builtin.len_ (t :: ts).toArray ty [v].toArray))) w = _
    rw [he, hl, Sem.run_bind, this]; rfl
  · rename_i x l
    obtain ⟨sv, hk, hr⟩ := minmaxK_sound h
    refine ⟨sv, hk, fun r β vs hl => ?_⟩
    obtain ⟨v, us, rfl, hv, hus⟩ := head hl
    obtain ⟨u, hu, hw⟩ := hr r β v us hv hus
    refine ⟨u, hu, fun w ty cs m => ?_⟩
    show Sem.run P (do pure (Next.value (← Builtin.min_ _ ty (v :: us).toArray))) w = _
    rw [Sem.run_bind, show Builtin.min_ ts.toArray ty (v :: us).toArray = us.foldlM Builtin.min2 v by simp [Builtin.min_]]
    have := hw P w
    simp only [Bool.false_eq_true, if_false] at this
    rw [this]; rfl
  · rename_i x l
    obtain ⟨sv, hk, hr⟩ := minmaxK_sound h
    refine ⟨sv, hk, fun r β vs hl => ?_⟩
    obtain ⟨v, us, rfl, hv, hus⟩ := head hl
    obtain ⟨u, hu, hw⟩ := hr r β v us hv hus
    refine ⟨u, hu, fun w ty cs m => ?_⟩
    show Sem.run P (do pure (Next.value (← Builtin.max_ _ ty (v :: us).toArray))) w = _
    rw [Sem.run_bind, show Builtin.max_ ts.toArray ty (v :: us).toArray = us.foldlM Builtin.max2 v by simp [Builtin.max_]]
    have := hw P w
    simp only [if_true] at this
    rw [this]; rfl
  · exact h.elim

theorem subK_sound {l : List SV} : ∀ {off n : Nat} {K : List SV → Prop}, subK l off n K → K ((l.drop off).take n) ∧ off + n ≤ l.length := by
  induction l with
  | nil =>
    intro off n K h
    cases off <;> cases n <;> simp only [subK] at h
    exact ⟨by simpa using h, by simp⟩
  | cons x r ih =>
    intro off n K h
    cases off with
    | zero =>
      cases n with
      | zero => simp only [subK] at h; exact ⟨by simpa using h, by simp⟩
      | succ n => simp only [subK] at h; obtain ⟨h1, h2⟩ := ih h; exact ⟨by simpa using h1, by simp at h2 ⊢; omega⟩
    | succ o => simp only [subK] at h; obtain ⟨h1, h2⟩ := ih h; exact ⟨by simpa using h1, by simp at h2 ⊢; omega⟩

theorem run_isAgg {P : Program} {t : TypeId} {d : TypeDesc} (h : P.underlying t = some d) (w : World) : (isAgg t).run P w = .ok (isAggD d) w := by
  cases d <;> simp [isAgg, run_underlying h, isAggD]

theorem RelL.part {r β svs vs} (h : RelL r β svs vs) (off n : Nat) : RelL r β ((svs.drop off).take n) ((vs.drop off).take n) := by
  obtain ⟨h1, h2⟩ := h
  refine ⟨by simp [h1], fun i sv v q1 q2 => ?_⟩
  rw [List.getElem?_take] at q1 q2
  split at q1
  · rename_i hi
    rw [if_pos hi] at q2
    rw [List.getElem?_drop] at q1 q2
    exact h2 _ _ _ q1 q2
  · cases q1

/-- a part of a symbolic row, as a value and as a load -/
theorem partK_sound {P : Program} {t : TypeId} {cs : List SV} {off : Nat} {K : SV → Prop} (h : partK P t cs off K) :
    ∃ sv, K sv ∧ ∀ r β vs, RelL r β cs vs → ∃ v, Rel r β sv v ∧ (∀ w, (part t vs.toArray off).run P w = .ok v w) ∧
      (∀ (w : World) b base, (∀ (j : Nat) u, vs[j]? = some u → w.cell? ⟨b, base + j, none⟩ = some u) → (loadVar t ⟨b, base + off, none⟩).run P w = .ok v w) := by
  unfold partK at h
  split at h
  · exact h.elim
  · rename_i d hu
    cases ha : isAggD d with
    | true =>
      rw [ha] at h
      obtain ⟨hk, hlen⟩ := subK_sound h
      refine ⟨_, hk, fun r β vs hl => ?_⟩
      have hp := hl.part off (sizeT P t)
      refine ⟨.agg ((vs.drop off).take (sizeT P t)).toArray, .agg hp.1 hp.2, fun w => ?_, fun w b base hc => ?_⟩
      · obtain ⟨i, hi⟩ := info_of_underlying hu
        simp only [part, Sem.run_bind, run_isAgg hu, ha, Result.andThen_ok, if_true, run_sizeOf hi, sizeT_run hi, Sem.run_pure, List.extract_toArray]
        simp [List.extract]
      · obtain ⟨i, hi⟩ := info_of_underlying hu
        have hn : ((vs.drop off).take (sizeT P t)).length = i.size := by
          rw [sizeT_run hi] at *
          have := hl.1
          simp; omega
        have hcells := run_loadCells_list (P := P) w ⟨b, base + off, none⟩ ((vs.drop off).take (sizeT P t)) (fun j u hj => by
          rw [List.getElem?_take] at hj
          split at hj
          · rw [List.getElem?_drop] at hj
            have := hc _ _ hj
            have e : (⟨b, base + off, none⟩ : Addr).add j = ⟨b, base + (off + j), none⟩ := by
              simp only [Addr.add]
              split
              · rename_i h0; subst h0; rfl
              · simp [Nat.add_assoc]
            rw [e]; exact this
          · cases hj)
        rw [hn] at hcells
        simp only [loadVar, Sem.run_bind, run_isAgg hu, ha, Result.andThen_ok, if_true, run_sizeOf hi, hcells, Sem.run_pure]
    | false =>
      rw [ha] at h
      simp only [cond_false] at h
      split at h
      · rename_i sv hn
        rw [nth_eq] at hn
        refine ⟨sv, h, fun r β vs hl => ?_⟩
        obtain ⟨h1, h2⟩ := hl
        have hlt : off < vs.length := by
          have : off < cs.length := by
            rcases Nat.lt_or_ge off cs.length with h | h
            · exact h
            · simp [List.getElem?_eq_none h] at hn
          omega
        have hv : vs[off]? = some vs[off] := List.getElem?_eq_getElem hlt
        refine ⟨vs[off], h2 _ _ _ hn hv, fun w => ?_, fun w b base hc => ?_⟩
        · simp [part, run_isAgg hu, ha, hlt]
        · have hc' := hc off _ hv
          simp only [loadVar, Sem.run_bind, run_isAgg hu, ha, Result.andThen_ok, Bool.false_eq_true, if_false]
          rw [run_load, hc']
      · exact h.elim

end Go.Vc
