/- A part of the proof: lemmas and walks that the last text of the claim joins; no condition. -/
import Derived.Test.YtfjggnjfifbbgaaVcS6
namespace Go.Vc
set_option autoImplicit false
set_option linter.unusedVariables false

theorem run_mapM {α β : Type} (P : Program) (f : α → Sem β) (g : α → β) (l : List α) (h : ∀ x ∈ l, ∀ w, (f x).run P w = .ok (g x) w) (w : World) :
    (l.mapM f).run P w = .ok (l.map g) w := by
  induction l with
  | nil => simp
  | cons x r ih =>
    simp only [List.mapM_cons, Sem.run_bind, h x (by simp), Result.andThen_ok, ih (fun y hy => h y (by simp [hy])), Sem.run_pure, List.map_cons]

theorem allInfo_mem {P : Program} {fs : List Field} (h : allInfo P fs = true) (f : Field) (hf : f ∈ fs) : ∃ i, P.info? f.type = some i := by
  induction fs with
  | nil => cases hf
  | cons x r ih =>
    simp only [allInfo, Bool.and_eq_true] at h
    cases hf with
    | head =>
      have := h.1
      unfold hasInfo at this
      split at this
      · exact ⟨_, by assumption⟩
      · cases this
    | tail _ hf => exact ih h.2 hf

theorem evBuild_sound {P : Program} {σ ctx t parts} {K : SV → Prop} (h : evBuild P σ ctx t parts K) :
    ∃ sv, K sv ∧ ∀ r β (ac : Act) g, Sm r β σ ac.tmps ctx g → ∃ v, Rel r β sv v ∧ ∀ w, (Instr.build t (parts.map fun (i, x) => (i, ac.eval x)).toArray).run P w = .ok v w := by
  unfold evBuild at h
  split at h
  · rename_i fs hu
    cases ha : allInfo P fs with
    | false => rw [ha] at h; exact h.elim
    | true =>
      rw [ha] at h
      obtain ⟨z, zv, hk, _, _, hz, hzr⟩ := zeroK_sound h
      obtain ⟨l, hk, hr⟩ := fillK_sound hk
      refine ⟨_, hk, fun r β ac g sm => ?_⟩
      obtain ⟨us, hus, hl⟩ := hr r β ac g sm zv.cells (hzr r β)
      refine ⟨.agg us, ?_, fun w => ?_⟩
      · have := Rel.agg (r := r) (β := β) hl.1 hl.2
        simpa using this
      · have hplaces : ∀ w, (Array.mapM (fun (f : Field) => do pure (f.offset, ← sizeOf f.type)) (⟨fs⟩ : Array Field) : Sem (Array (Nat × Nat))).run P w = .ok (fs.map fun f => (f.offset, sizeT P f.type)).toArray w := by
          intro w
          rw [show (⟨fs⟩ : Array Field) = fs.toArray from rfl, List.mapM_toArray, Sem.run_map]
          rw [run_mapM P _ (fun f => (f.offset, sizeT P f.type)) fs (fun f hf w => by
            obtain ⟨i, hi⟩ := allInfo_mem ha f hf
            simp only [Sem.run_bind, run_sizeOf hi, Result.andThen_ok, Sem.run_pure, sizeT_run hi])]
          rfl
        have hpl : placeOf P fs = (fun i => (fs.map fun f => (f.offset, sizeT P f.type)).toArray[i]?) := by
          funext i
          unfold placeOf
          rw [nth_eq]
          simp only [List.getElem?_toArray, List.getElem?_map]
          cases fs[i]? <;> rfl
        rw [hpl] at hus
        simp only [Instr.build, Sem.run_bind, hz, Result.andThen_ok, run_underlying hu, hplaces, hus, Sem.run_pure]
  · rename_i n e hu
    cases ha : hasInfo P e with
    | false => rw [ha] at h; exact h.elim
    | true =>
      rw [ha] at h
      obtain ⟨i, hi⟩ : ∃ i, P.info? e = some i := by
        unfold hasInfo at ha
        split at ha
        · exact ⟨_, by assumption⟩
        · cases ha
      obtain ⟨z, zv, hk, _, _, hz, hzr⟩ := zeroK_sound h
      obtain ⟨l, hk, hr⟩ := fillK_sound hk
      refine ⟨_, hk, fun r β ac g sm => ?_⟩
      obtain ⟨us, hus, hl⟩ := hr r β ac g sm zv.cells (hzr r β)
      refine ⟨.agg us, ?_, fun w => ?_⟩
      · have := Rel.agg (r := r) (β := β) hl.1 hl.2
        simpa using this
      · rw [sizeT_run hi] at hus
        simp only [Instr.build, Sem.run_bind, hz, Result.andThen_ok, run_underlying hu, run_sizeOf hi, hus, Sem.run_pure]
  · exact h.elim

/-! Calls. -/

def Chunk.isOwn : Chunk → Bool
  | .own _ _ _ _ | .ownl _ _ => true
  | _ => false
open Classical in
/-- The memory in which what is owned is readable. -/
noncomputable def frz (r : Mem) (β : Bind) (Φ : Phi) (w : World) : Mem := fun b =>
  if ∃ id ch, Φ.get id = some ch ∧ ch.isOwn = true ∧ ch.blk (β id) = some b then w.heap[b]? else r b

theorem frz_le {r β Φ w} (m : MemSat r β Φ w) : Mem.le r (frz r β Φ w) := by
  intro b o h
  unfold frz
  rw [if_neg]
  · exact h
  · rintro ⟨id, ch, h1, _, h3⟩
    rw [m.sep _ _ _ h1 h3] at h
    cases h
theorem frz_at {r β Φ w id ch b} (h1 : Phi.get Φ id = some ch) (h2 : ch.isOwn = true) (h3 : ch.blk (β id) = some b) : frz r β Φ w b = w.heap[b]? := by
  unfold frz
  rw [if_pos ⟨id, ch, h1, h2, h3⟩]
theorem frz_not {r β Φ w b} (h : ∀ id ch, Phi.get Φ id = some ch → ch.isOwn = true → ch.blk (β id) ≠ some b) : frz r β Φ w b = r b := by
  unfold frz
  rw [if_neg]
  rintro ⟨id, ch, h1, h2, h3⟩
  exact h id ch h1 h2 h3
theorem frz_mem {r β Φ w} (m : MemSat r β Φ w) (β' : Bind) : MemSat (frz r β Φ w) β' [] w := by
  refine ⟨fun b o h => ?_, fun id ch h => by simp [Phi.get] at h, fun id ch b h => by simp [Phi.get] at h, fun id id' ch ch' b h => by simp [Phi.get] at h⟩
  unfold frz at h
  split at h
  · exact h
  · exact m.vis _ _ h

theorem rows_lits {r r' : Mem} (hle : r.le r') {w x sz rows} (h : RowsAt r w x sz rows) (hb : ∀ b off n cap, x = .slice (some ⟨b, off, none⟩) n cap → cap ≠ 0 → r' b = w.heap[b]?) (β : Bind) :
    Rel r' β (.lits sz rows) x := by
  rcases h with ⟨a, rfl, rfl⟩ | ⟨b, off, cap, c, T, fr, rfl, hc0, hw, _, h1, h2, h3, h4, h4', h5⟩
  · exact .litsE
  · refine .lits (by rw [hb b off _ cap rfl hc0]; exact hw) h1 h2 h4 h4' ?_ fun i row j sv v q1 q2 q3 => (h5 i row j sv v q1 q2 q3).mono hle
    have := Nat.mul_le_mul_right sz h2
    omega

theorem blk_own {α : Type} {sz d enc} {l : List α} {x : Value} {b off n cap} (h : x = .slice (some ⟨b, off, none⟩) n cap) (hc : cap ≠ 0) : (Chunk.own sz d enc l).blk x = some b := by
  subst h
  simp only [Chunk.blk, nbeq_of hc]; rfl
theorem blk_ownl {sz rows} {x : Value} {b off n cap} (h : x = .slice (some ⟨b, off, none⟩) n cap) (hc : cap ≠ 0) : (Chunk.ownl sz rows).blk x = some b := by
  subst h
  simp only [Chunk.blk, nbeq_of hc]; rfl

theorem own_frz {r β Φ w id} {α : Type} {sz d enc} {l : List α} (m : MemSat r β Φ w) (hg : Phi.get Φ id = some (.own sz d enc l)) : Rel (frz r β Φ w) β (.rd sz d enc l) (β id) := by
  have hs := m.rows hg
  cases hs with
  | own hs => exact .rd (rows_lits (frz_le m) hs (fun b off n cap he hc => frz_at hg rfl (blk_own he hc)) β)
theorem ownl_frz {r β Φ w id} {sz rows} (m : MemSat r β Φ w) (hg : Phi.get Φ id = some (.ownl sz rows)) : Rel (frz r β Φ w) β (.lits sz rows) (β id) := by
  have hs := m.rows hg
  cases hs with
  | ownl hs => exact rows_lits (frz_le m) hs (fun b off n cap he hc => frz_at hg rfl (blk_ownl he hc)) β

theorem RelL.cons {r β x l v vs} (h : Rel r β x v) (hl : RelL r β l vs) : RelL r β (x :: l) (v :: vs) :=
  ⟨by simp [hl.1], fun i sv u q1 q2 => by
    cases i with
    | zero => simp at q1 q2; subst q1; subst q2; exact h
    | succ i => exact hl.2 i sv u (by simpa using q1) (by simpa using q2)⟩
theorem RelL.uncons {r β x l vs} (h : RelL r β (x :: l) vs) : ∃ v us, vs = v :: us ∧ Rel r β x v ∧ RelL r β l us := by
  obtain ⟨h1, h2⟩ := h
  match vs, h1 with
  | v :: us, h1 => exact ⟨v, us, rfl, h2 0 x v rfl rfl, by simpa using h1, fun i sv v q1 q2 => h2 (i + 1) sv v (by simpa using q1) (by simpa using q2)⟩

theorem lendK_sound {Φ : Phi} {xs : List SV} : ∀ {K : List SV → Prop}, lendK Φ xs K →
    ∃ ys, K ys ∧ ∀ r β w vs, MemSat r β Φ w → RelL r β xs vs → RelL (frz r β Φ w) β ys vs := by
  induction xs with
  | nil => intro K h; exact ⟨[], h, fun r β w vs m hl => ⟨hl.1, fun i sv v q => by simp at q⟩⟩
  | cons x xs ih =>
    intro K h
    by_cases hx : ∃ id, x = .own id
    · obtain ⟨id, rfl⟩ := hx
      simp only [lendK] at h
      split at h
      · rename_i α sz d enc l hg
        obtain ⟨ys, hk, hr⟩ := ih h
        refine ⟨_, hk, fun r β w vs m hl => ?_⟩
        obtain ⟨v, us, rfl, hv, hus⟩ := hl.uncons
        cases hv
        exact (own_frz m hg).mono (Mem.le_refl _) |> fun q => RelL.cons q (hr r β w us m hus)
      · rename_i sz rows hg
        obtain ⟨ys, hk, hr⟩ := ih h
        refine ⟨_, hk, fun r β w vs m hl => ?_⟩
        obtain ⟨v, us, rfl, hv, hus⟩ := hl.uncons
        cases hv
        exact RelL.cons (ownl_frz m hg) (hr r β w us m hus)
      · exact h.elim
    · have h' : lendK Φ xs fun ys => K (x :: ys) := by
        cases x <;> first | exact h | exact (hx ⟨_, rfl⟩).elim
      obtain ⟨ys, hk, hr⟩ := ih h'
      refine ⟨_, hk, fun r β w vs m hl => ?_⟩
      obtain ⟨v, us, rfl, hv, hus⟩ := hl.uncons
      exact RelL.cons (hv.mono (frz_le m)) (hr r β w us m hus)

theorem Chunk.Sat.keep {r r' : Mem} (hle : r.le r') {β β' : Bind} {w w' x} {ch : Chunk} (h : ch.Sat r β w x) (hb : ∀ b, ch.blk x = some b → w'.heap[b]? = w.heap[b]?)
    (hβ : ∀ cells, ch = .box cells → ∀ (i : Nat) sv v, cells[i]? = some sv → Rel r' β sv v → Rel r' β' sv v) : ch.Sat r' β' w' x := by
  have rows : ∀ {sz rows}, RowsAt r w x sz rows → (∀ b off n cap, x = .slice (some ⟨b, off, none⟩) n cap → cap ≠ 0 → w'.heap[b]? = w.heap[b]?) → RowsAt r' w' x sz rows := by
    intro sz rows h hb
    rcases h with ⟨a, h1, h2⟩ | ⟨b, off, cap, c, T, fr, he, hc0, hw, h0, h1, h2, h3, h4, h4', h5⟩
    · exact .inl ⟨a, h1, h2⟩
    · exact .inr ⟨b, off, cap, c, T, fr, he, hc0, by rw [hb b off _ cap he hc0]; exact hw, h0, h1, h2, h3, h4, h4', fun i row j sv v q1 q2 q3 => (h5 i row j sv v q1 q2 q3).mono hle⟩
  cases h with
  | box hx hw hl h =>
    rename_i b c T cells
    exact .box hx (by rw [hb b (by rw [hx]; rfl)]; exact hw) hl fun i sv v q1 q2 => hβ cells rfl i sv v q1 ((h i sv v q1 q2).mono hle)
  | own h => exact .own (rows h fun b off n cap he hc => hb b (blk_own he hc))
  | ownl h => exact .ownl (rows h fun b off n cap he hc => hb b (blk_ownl he hc))
  | iter hx hw hs => 
    rename_i b s pos
    exact .iter hx (by rw [hb b (by rw [hx]; rfl)]; exact hw) hs

theorem Chunk.Sat.alive {r β w x} {ch : Chunk} (h : ch.Sat r β w x) {b : Nat} (hb : ch.blk x = some b) : b < w.heap.size := by
  have lt : ∀ {b : Nat} {o}, w.heap[b]? = some o → b < w.heap.size := by
    intro b o h
    rcases Nat.lt_or_ge b w.heap.size with h' | h'
    · exact h'
    · rw [Array.getElem?_eq_none h'] at h; cases h
  cases h with
  | box hx hw hl h => rw [hx] at hb; simp only [Chunk.blk, Option.some.injEq] at hb; subst hb; exact lt hw
  | iter hx hw hs => rw [hx] at hb; simp only [Chunk.blk, Option.some.injEq] at hb; subst hb; exact lt hw
  | own h =>
    rcases h with ⟨a, h1, _⟩ | ⟨b', off, cap, c, T, fr, he, hc0, hw, _⟩
    · rw [h1] at hb; cases a <;> simp [Chunk.blk] at hb
    · rw [blk_own he hc0] at hb; cases hb; exact lt hw
  | ownl h =>
    rcases h with ⟨a, h1, _⟩ | ⟨b', off, cap, c, T, fr, he, hc0, hw, _⟩
    · rw [h1] at hb; cases a <;> simp [Chunk.blk] at hb
    · rw [blk_ownl he hc0] at hb; cases hb; exact lt hw

theorem Hid.refl (r β Φ w) : Hid r β Φ w r β Φ w := ⟨rfl, rfl, rfl, Nat.le_refl _, fun b _ h1 h2 => ⟨rfl, h1, h2⟩⟩
theorem Hid.trans {r1 β1 Φ1 w1 r2 β2 Φ2 w2 r3 β3 Φ3 w3} (h : Hid r1 β1 Φ1 w1 r2 β2 Φ2 w2) (k : Hid r2 β2 Φ2 w2 r3 β3 Φ3 w3) : Hid r1 β1 Φ1 w1 r3 β3 Φ3 w3 :=
  ⟨k.os.trans h.os, k.tape.trans h.tape, k.output.trans h.output, Nat.le_trans h.size k.size, fun b hb h1 h2 => by
    obtain ⟨q1, q2, q3⟩ := h.block b hb h1 h2
    obtain ⟨p1, p2, p3⟩ := k.block b (Nat.lt_of_lt_of_le hb h.size) q2 q3
    exact ⟨p1.trans q1, p2, p3⟩⟩
theorem Near.refl {r β Φ w} (m : MemSat r β Φ w) : Near r β Φ w w := ⟨m, fun _ _ _ _ _ => rfl, Hid.refl ..⟩
theorem Near.trans {r β Φ w1 w2 w3} (h : Near r β Φ w1 w2) (k : Near r β Φ w2 w3) : Near r β Φ w1 w3 :=
  ⟨k.mem, fun id ch b h1 h2 => (k.same id ch b h1 h2).trans (h.same id ch b h1 h2), h.hid.trans k.hid⟩

/-- behind a call that saw the memory frz: nothing that is known has turned -/
theorem near_of_lent {r β Φ w r' β' w'} (m : MemSat r β Φ w) (hle : (frz r β Φ w).le r') (m' : MemSat r' β' [] w') (hid : Hid (frz r β Φ w) β [] w r' β' [] w') : Near r β Φ w w' := by
  have nochunk : ∀ (id : Nat) (ch : Chunk), Phi.get [] id = some ch → ∀ b, ch.blk (β id) ≠ some b := fun id ch h => by simp [Phi.get] at h
  have lt : ∀ {b : Nat} {o}, w.heap[b]? = some o → b < w.heap.size := by
    intro b o h
    rcases Nat.lt_or_ge b w.heap.size with h' | h'
    · exact h'
    · rw [Array.getElem?_eq_none h'] at h; cases h
  have same : ∀ id ch b, Phi.get Φ id = some ch → ch.blk (β id) = some b → w'.heap[b]? = w.heap[b]? := by
    intro id ch b h1 h2
    have hb := (m.chs _ _ h1).alive h2
    cases ho : ch.isOwn with
    | true =>
      have hf := frz_at (r := r) (w := w) h1 ho h2
      have hs : w.heap[b]? = some w.heap[b] := Array.getElem?_eq_getElem hb
      rw [hs] at hf ⊢
      exact m'.vis _ _ (hle _ _ hf)
    | false =>
      have hf : frz r β Φ w b = none := by
        rw [frz_not, m.sep _ _ _ h1 h2]
        intro id' ch' q1 q2 q3
        obtain rfl := m.nod _ _ _ _ _ h1 q1 h2 q3
        rw [h1] at q1; cases q1
        rw [ho] at q2; cases q2
      exact (hid.block b hb hf (fun id ch h => nochunk id ch h b)).1
  refine ⟨⟨fun b o h => m'.vis _ _ (hle _ _ (frz_le m _ _ h)), fun id ch h => (m.chs _ _ h).keep (Mem.le_refl r) (fun b hb => same _ _ _ h hb) (fun cells _ i sv v _ h => h), m.sep, m.nod⟩, same, ?_⟩
  refine ⟨hid.os, hid.tape, hid.output, hid.size, fun b hb h1 h2 => ⟨?_, h1, h2⟩⟩
  refine (hid.block b hb ?_ (fun id ch h => nochunk id ch h b)).1
  rw [frz_not (fun id ch q1 _ => h2 id ch q1)]
  exact h1

/-- behind a call that saw what is readable alone -/
theorem mem_of_call {r β Φ w r' β' w'} (m : MemSat r β Φ w) (hle : r.le r') (m' : MemSat r' β' [] w') (hid : Hid r β [] w r' β' [] w') : MemSat r' β Φ w' ∧ Hid r β Φ w r' β Φ w' := by
  have nochunk : ∀ b (id : Nat) (ch : Chunk), Phi.get [] id = some ch → ch.blk (β id) ≠ some b := fun b id ch h => by simp [Phi.get] at h
  have blk : ∀ id ch b, Phi.get Φ id = some ch → ch.blk (β id) = some b → w'.heap[b]? = w.heap[b]? ∧ r' b = none := by
    intro id ch b h1 h2
    have := hid.block b ((m.chs _ _ h1).alive h2) (m.sep _ _ _ h1 h2) (nochunk b)
    exact ⟨this.1, this.2.1⟩
  refine ⟨⟨m'.vis, fun id ch h => (m.chs _ _ h).keep hle (fun b hb => (blk _ _ _ h hb).1) (fun cells _ i sv v _ h => h), fun id ch b h1 h2 => (blk _ _ _ h1 h2).2, m.nod⟩, ?_⟩
  exact ⟨hid.os, hid.tape, hid.output, hid.size, fun b hb h1 h2 => ⟨(hid.block b hb h1 (nochunk b)).1, (hid.block b hb h1 (nochunk b)).2.1, h2⟩⟩

end Go.Vc
