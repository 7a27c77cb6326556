/- A part of the proof: lemmas and walks that the last text of the claim joins; no condition. -/
import Derived.Test.YtecfabjncghbnaaVcC
import Derived.Laws.IdiomStrings
set_option linter.unusedVariables false
set_option linter.unusedSimpArgs false
namespace Go.Vc
set_option autoImplicit false
set_option linter.unusedVariables false
set_option linter.unusedSimpArgs false

theorem makeSliceK_sound {B : Base} {e N r β σ Φ a w n t} {ln cp : SV} {vl vc : Value} {K : EK} (h : makeSliceK B t ln cp σ Φ n K) (st : Sat B e N r β σ Φ a w) (hl : Rel r β ln vl) (hc : Rel r β cp vc) :
    ∃ sv Φ' n' v w' β', K sv σ Φ' n' ∧ (Instr.makeSlice t vl vc).run B.P w = .ok v w' ∧ Rel r β' sv v ∧ Sat B e N r β' σ Φ' a w' := by
  unfold makeSliceK at h
  split at h
  · rename_i el k1 a0 k2 c0 ht
    cases hl; cases hc
    cases hz0 : Nat.beq (sizeT B.P el) 0 with
    | true => rw [hz0] at h; exact h.elim
    | false =>
    rw [hz0] at h
    simp only [cond_false] at h
    obtain ⟨z, zv, h, hz1, _, hzrun, hzrel⟩ := zeroK_sound h
    cases hz2 : Nat.beq (len z) (sizeT B.P el) with
    | false => rw [hz2] at h; exact h.elim
    | true =>
    rw [hz2] at h
    simp only [cond_true] at h
    split at h
    · rename_i τ hty
      cases hz3 : szOk B.P el τ.size with
      | false => rw [hz3] at h; exact h.elim
      | true =>
      rw [hz3] at h
      obtain ⟨i, hi, his⟩ := szOk_info hz3
      obtain ⟨d, h, hent⟩ := dec1K_sound h
      obtain ⟨hob, h⟩ := h
      have hob := hob.h
      have hzl := beq_of hz2
      rw [len_eq, sizeT_run hi] at hzl
      have hby : bytesT B.P el = i.bytes := by simp [bytesT, hi]
      rw [hby] at hob
      have hzc : zv.cells.size = i.size := by
        have := (hzrel r β).1
        simp at this
        omega
      have hrun := run_make (P := B.P) w t el i zv ht hi (zero_of_run hi (hzrun w)) k1 k2 a0 c0 hob.1 hob.2.1 (by have := hob.2.2.1; rw [Int.mul_comm]; omega) (by omega)
      have hrows : RowsAt r { w with heap := w.heap.push (.cells (madeCells zv.cells (c0.toNat * i.size)) el) } (.slice (some ⟨w.heap.size, 0, none⟩) a0.toNat c0.toNat) τ.isB τ.size ((List.replicate a0.toNat d).map τ.enc) := by
        by_cases hcz : c0.toNat = 0
        · have : a0.toNat = 0 := by omega
          left
          exact ⟨_, by rw [hcz, this], by rw [this]; rfl⟩
        · right
          have rowz : ∀ (k : Nat) (row : List SV), ((List.replicate a0.toNat d).map τ.enc)[k]? = some row → k < a0.toNat ∧ row = τ.enc d := by
            intro k row hk
            have hlt := lt_len hk
            rw [List.length_map, List.length_replicate] at hlt
            refine ⟨hlt, ?_⟩
            rw [List.getElem?_map, List.getElem?_replicate, if_pos hlt] at hk
            simp at hk
            rw [← hk]
          refine ⟨w.heap.size, 0, c0.toNat, _, el, (0, 0), by simp, hcz, heap_alloc_eq, .inl rfl, by simp; omega, by simp; omega, by rw [size_madeCells, his]; omega, ?_, ?_, ?_⟩
          · intro k row hk; rw [(rowz k row hk).2, enc_len]
          · intro k row j sv hk hj
            rw [(rowz k row hk).2] at hj
            exact enc_one τ d j sv hj
          · intro k row j sv v hk hj hv
            obtain ⟨hk1, hk2⟩ := rowz k row hk
            subst hk2
            have hjl := lt_len hj
            rw [enc_len, ← his] at hjl
            rw [Nat.zero_add, ← his, madeCells_get hzc k j (by omega) hjl] at hv
            have hzj : z[j]? = some z[j] := List.getElem?_eq_getElem (by omega)
            exact (hent.2 j _ sv hzj hj).1 _ _ _ ((hzrel r β0).2 j _ v hzj (by simpa using hv))
      obtain ⟨sv, σ', Φ', n', hk, rfl, β', hr', hsat⟩ := newChK_sound h st (Grows.alloc w (.cells (madeCells zv.cells (c0.toNat * i.size)) el)) (v := .slice (some ⟨w.heap.size, 0, none⟩) a0.toNat c0.toNat)
        (fun b hb => by
          simp only [Chunk.blk] at hb
          cases hq : Nat.beq c0.toNat 0 with
          | true => rw [hq] at hb; cases hb
          | false => rw [hq] at hb; simp at hb; omega) (.own hrows) (own_rel rfl)
      exact ⟨sv, Φ', n', _, _, β', hk, hrun, hr', hsat⟩
    · exact h.elim
  · exact h.elim

theorem buildSliceK_sound {B : Base} {e N r β σ Φ a w n t ln parts} {K : EK} (h : buildSliceK B σ t ln parts Φ n K) (st : Sat B e N r β σ Φ a w) :
    ∃ sv Φ' n' v w' β', K sv σ Φ' n' ∧ (Instr.buildSlice t ln (parts.map fun (i, x) => (i, a.eval x)).toArray).run B.P w = .ok v w' ∧ Rel r β' sv v ∧ Sat B e N r β' σ Φ' a w' := by
  unfold buildSliceK at h
  split at h
  · rename_i el ht
    split at h
    · rename_i τ hty
      cases hz : szOk B.P el τ.size with
      | false => rw [hz] at h; exact h.elim
      | true =>
      rw [hz] at h
      have hts := (szOk_spec hz).1
      obtain ⟨rows, h, h1, h2, h3, h4, h5, h6⟩ := rowsOfK_sound h
      obtain ⟨l, h, hl⟩ := decRowsK_sound (fun _ _ h => decK_sound h) h
      obtain ⟨us, hus, hrun, hrel⟩ := h6 _ r β a _ (fun _ _ => hasT _) (Sm.plain st.agree)
      have hlen : (l.map τ.enc).length = ln := by rw [List.length_map, hl.1, h1]
      have hrows : RowsAt r { w with heap := w.heap.push (.cells us el) } (.slice (some ⟨w.heap.size, 0, none⟩) ln ln) τ.isB τ.size (l.map τ.enc) := by
        by_cases hz : ln = 0
        · left
          exact ⟨_, by rw [hz], List.length_eq_zero_iff.1 (by rw [hlen, hz])⟩
        · right
          have key : ∀ (i : Nat) (row : List SV), (l.map τ.enc)[i]? = some row → ∃ row0 a, rows[i]? = some row0 ∧ Entl row0 row ∧ row = τ.enc a := by
            intro i row hi
            rw [List.getElem?_map] at hi
            cases hq : l[i]? with
            | none => rw [hq] at hi; cases hi
            | some a =>
              rw [hq] at hi
              simp at hi
              subst hi
              have hlt : i < rows.length := by have := lt_len hq; rw [← hl.1]; exact this
              exact ⟨rows[i], a, List.getElem?_eq_getElem hlt, hl.2 i _ a (List.getElem?_eq_getElem hlt) hq, rfl⟩
          have hle : ln ≤ ln * sizeT B.P el := Nat.le_mul_of_pos_right ln (by omega)
          refine ⟨w.heap.size, 0, ln, us, el, (0, 0), by rw [hlen], hz, heap_alloc_eq, .inl rfl, by omega, by rw [hlen]; exact Nat.le_refl _, by rw [← hts, hus]; omega, ?_, ?_, ?_⟩
          · intro k row hk; obtain ⟨_, a', _, _, rfl⟩ := key k row hk; exact enc_len _ _
          · intro k row j sv hk hj; obtain ⟨_, a', _, _, rfl⟩ := key k row hk; exact enc_one _ _ _ _ hj
          · intro k row j sv v hk hj hv
            obtain ⟨row0, a', g1, g2, rfl⟩ := key k row hk
            have hjl : j < row0.length := by have := lt_len hj; rw [← g2.1]; exact this
            exact (g2.2 j _ sv (List.getElem?_eq_getElem hjl) hj).1 _ _ _ (hrel k row0 j _ v g1 (List.getElem?_eq_getElem hjl) (by rw [hts]; rw [Nat.zero_add] at hv; exact hv))
      obtain ⟨sv, σ', Φ', n', hk, rfl, β', hr', hsat⟩ := newChK_sound h st (Grows.alloc w (.cells us el)) (v := .slice (some ⟨w.heap.size, 0, none⟩) ln ln)
        (fun b hb => by
          simp only [Chunk.blk] at hb
          cases hq : Nat.beq ln 0 with
          | true => rw [hq] at hb; cases hb
          | false => rw [hq] at hb; simp at hb; omega) (.own hrows) (own_rel rfl)
      exact ⟨sv, Φ', n', _, _, β', hk, hrun t w ht, hr', hsat⟩
    · exact h.elim
  · exact h.elim

theorem rangeK_sound {B : Base} {e N r β σ Φ a w n t} {x : SV} {vx : Value} {K : EK} (h : rangeK B.P t x σ Φ n K) (st : Sat B e N r β σ Φ a w) (hx : Rel r β x vx) :
    ∃ sv Φ' n' v w' β', K sv σ Φ' n' ∧ (Instr.range t vx).run B.P w = .ok v w' ∧ Rel r β' sv v ∧ Sat B e N r β' σ Φ' a w' := by
  unfold rangeK at h
  split at h
  · rename_i l hu
    cases hx
    rename_i hlen
    obtain ⟨sv, σ', Φ', n', hk, rfl, β', hr', hsat⟩ := newChK_sound h st (Grows.alloc w (.stringIter ⟨l.toArray⟩ 0)) (v := .pointer (some ⟨w.heap.size, 0, none⟩))
      (fun b hb => by simp [Chunk.blk] at hb; omega) (.iter rfl heap_alloc_eq hlen) (.loc (setB_self _ _ _))
    refine ⟨sv, Φ', n', _, _, β', hk, ?_, hr', hsat⟩
    simp only [Instr.range, Sem.run_bind, run_underlying hu, Result.andThen_ok, Sem.run_pure, run_newObj]
  · exact h.elim

theorem nextK_sound {B : Base} {e N r β σ Φ a w n is ty} {x : SV} {vx : Value} {K : EK} (h : nextK x is σ Φ n K) (st : Sat B e N r β σ Φ a w) (hx : Rel r β x vx) :
    ∃ sv Φ' n' v w', K sv σ Φ' n' ∧ (Instr.next vx is ty).run B.P w = .ok v w' ∧ Rel r β sv v ∧ Sat B e N r β σ Φ' a w' := by
  unfold nextK at h
  split at h
  · rename_i id
    split at h
    · rename_i s pos hg
      obtain ⟨h1, h2⟩ := h
      cases hx with
      | loc hβ =>
        rename_i b
        have hs := st.mem.rows hg
        cases hs with
        | iter hxb hw hlen =>
          rename_i b'
          rw [hβ] at hxb
          obtain rfl : b = b' := by simpa using hxb
          have hz : (ByteArray.mk s.toArray).size = s.length := by simp [ByteArray.size]
          by_cases hp : pos < s.length
          · obtain ⟨Φ', hk, hΦ⟩ := setPK_sound (h1 hp) (hasId_of hg)
            have hlt := lt_of_heap hw
            refine ⟨_, Φ', n, _, { w with heap := w.heap.setIfInBounds b (.stringIter ⟨s.toArray⟩ (pos + (decL s pos).2)) }, hk, ?_, .tup (cs := [.bool true, .int .i64 pos, .int .i32 (decL s pos).1]) rfl ?_, ?_⟩
            · have hp' : pos < (ByteArray.mk s.toArray).size := by rw [hz]; exact hp
              simp only [Instr.next, Sem.run_bind, getObj, Sem.run, hw, Result.andThen_ok]
              simp only [hp', if_true, setObj, Sem.run_bind, Sem.run, hw, Result.andThen_ok, Sem.run_pure, goInt]
              rfl
            · intro i sv v q1 q2
              match i with
              | 0 => simp at q1 q2; subst q1; subst q2; exact .bool
              | 1 => simp at q1 q2; subst q1; subst q2; exact .int
              | 2 => simp at q1 q2; subst q1; subst q2; exact .int
              | i + 3 => simp at q1
            · refine sat_upd st hg hΦ ⟨rfl, rfl, rfl, by simp, fun b' hb' => ?_⟩ (by rw [hβ]; rfl) (by rw [hβ]; rfl) (.iter hβ (by simp [hlt]) hlen) rfl
              show (w.heap.setIfInBounds b _)[b']? = _
              rw [Array.getElem?_setIfInBounds_ne (fun h => hb' h.symm)]
          · refine ⟨_, Φ, n, _, w, h2 hp, ?_, .tup (cs := [.bool false]) rfl ?_, st⟩
            · have hp' : ¬ pos < (ByteArray.mk s.toArray).size := by rw [hz]; exact hp
              simp only [Instr.next, Sem.run_bind, getObj, Sem.run, hw, Result.andThen_ok]
              simp only [hp', if_false]
              rfl
            · intro i sv v q1 q2
              cases i with
              | zero => simp at q1 q2; subst q1; subst q2; exact .bool
              | succ i => simp at q1
    · exact h.elim
  · exact h.elim

end Go.Vc

namespace Go.Vc
set_option autoImplicit false
set_option linter.unusedVariables false
set_option linter.unusedSimpArgs false

/-! What is owned, given away for good. -/
def bq (id : Nat) : Nat → Bool := fun i => Nat.beq i id
theorem bq_self (id : Nat) : bq id id = true := Nat.beq_refl id
theorem bq_eq {id i : Nat} (h : bq id i = true) : i = id := beq_of h

/-- one value stands for the other, where id is given away -/
def FzR (id : Nat) (τ : Ty) (l : List τ.T) (x y : SV) : Prop := ∀ r β Φ w v, MemSat r β Φ w → Phi.get Φ id = some (.own τ l) → Rel r β x v → Rel (frz (bq id) r β Φ w) β y v
theorem fz0_sound {id τ l x} {K : SV → Prop} (h : fz0 id τ l x K) : ∃ y, K y ∧ FzR id τ l x y := by
  by_cases hx : ∃ i, x = .own i
  · obtain ⟨i, rfl⟩ := hx
    simp only [fz0] at h
    cases hb : Nat.beq i id with
    | true =>
      rw [hb] at h
      obtain rfl := beq_of hb
      refine ⟨_, h, fun r β Φ w v m hg hr => ?_⟩
      cases hr
      exact own_frz m (bq_self _) hg β
    | false =>
      rw [hb] at h
      exact ⟨_, h, fun r β Φ w v m hg hr => hr.mono (frz_le m)⟩
  · have h' : bif x.okIds (fun i => !Nat.beq i id) then K x else K .und := by cases x <;> first | exact h | exact (hx ⟨_, rfl⟩).elim
    cases ho : x.okIds (fun i => !Nat.beq i id) with
    | true => rw [ho] at h'; exact ⟨x, h', fun r β Φ w v m hg hr => hr.mono (frz_le m)⟩
    | false => rw [ho] at h'; exact ⟨_, h', fun r β Φ w v m hg hr => .und⟩
theorem fz1_sound {id τ l x} {K : SV → Prop} (h : fz1 id τ l x K) : ∃ y, K y ∧ FzR id τ l x y := by
  by_cases hx : ∃ xs, x = .agg xs
  · obtain ⟨xs, rfl⟩ := hx
    obtain ⟨ys, hk, hl, hh⟩ := lift_list (D := fz0 id τ l) (DL := fz0L id τ l) (fun _ h => h) (fun _ _ _ h => h) (fun _ _ h => fz0_sound h) xs _ h
    refine ⟨_, hk, fun r β Φ w v m hg hr => ?_⟩
    obtain ⟨cs, rfl, hcs⟩ := hr.aggL_inv
    exact .aggL (relL_of hl hh (fun x y v hR hx => hR r β Φ w v m hg hx) hcs)
  · have h' : fz0 id τ l x K := by cases x <;> first | exact h | exact (hx ⟨_, rfl⟩).elim
    exact fz0_sound h'
theorem fz1L_sound {id τ l xs} {K : List SV → Prop} (h : fz1L id τ l xs K) : ∃ ys, K ys ∧ ys.length = xs.length ∧ ∀ (i : Nat) y, ys[i]? = some y → ∃ x, xs[i]? = some x ∧ FzR id τ l x y :=
  lift_list (D := fz1 id τ l) (DL := fz1L id τ l) (fun _ h => h) (fun _ _ _ h => h) (fun _ _ h => fz1_sound h) xs K h
theorem fz2_sound {id τ l x} {K : SV → Prop} (h : fz2 id τ l x K) : ∃ y, K y ∧ FzR id τ l x y := by
  by_cases hx : ∃ xs, x = .tup xs
  · obtain ⟨xs, rfl⟩ := hx
    obtain ⟨ys, hk, hl, hh⟩ := fz1L_sound h
    refine ⟨_, hk, fun r β Φ w v m hg hr => ?_⟩
    obtain ⟨cs, rfl, hcs⟩ := hr.tupL_inv
    exact .tupL (relL_of hl hh (fun x y v hR hx => hR r β Φ w v m hg hx) hcs)
  · have h' : fz1 id τ l x K := by cases x <;> first | exact h | exact (hx ⟨_, rfl⟩).elim
    exact fz1_sound h'
theorem fzE_sound {id τ l} {σ : Env} : ∀ {K : Env → Prop}, fzE id τ l σ K → ∃ σ', K σ' ∧ ∀ k g sv', Env.get σ' k = some (g, sv') → ∃ sv, Env.get σ k = some (g, sv) ∧ FzR id τ l sv sv' := by
  induction σ with
  | nil => intro K h; exact ⟨[], h, fun k g sv' hk => by simp [Env.get] at hk⟩
  | cons x r ih =>
    obtain ⟨k0, g0, sv0⟩ := x
    intro K h
    obtain ⟨y, h, hy⟩ := fz2_sound h
    obtain ⟨σ', hk, hh⟩ := ih h
    refine ⟨_, hk, fun k g sv' hi => ?_⟩
    rw [get_cons] at hi ⊢
    cases hb : Nat.beq k0 k with
    | true => rw [hb] at hi; simp at hi; obtain ⟨rfl, rfl⟩ := hi; exact ⟨sv0, rfl, hy⟩
    | false => rw [hb] at hi; exact hh k g sv' hi
inductive FzC (id : Nat) (τ : Ty) (l : List τ.T) : Chunk → Chunk → Prop
  | same {c} (h : ∀ cs, c ≠ .box cs) : FzC id τ l c c
  | box {cs cs'} (hl : cs'.length = cs.length) (h : ∀ (i : Nat) (sv' : SV), cs'[i]? = some sv' → ∃ sv, cs[i]? = some sv ∧ FzR id τ l sv sv') : FzC id τ l (.box cs) (.box cs')
theorem FzC.kind {id τ l c c'} (h : FzC id τ l c c') : c'.kind = c.kind := by cases h <;> rfl
theorem FzC.blk {id τ l c c'} (h : FzC id τ l c c') (x : Value) : c'.blk x = c.blk x := by
  cases h with
  | same => rfl
  | box => exact blk_box' _ _ _
theorem fzC_sound {id τ l c} {K : Chunk → Prop} (h : fzC id τ l c K) : ∃ c', K c' ∧ FzC id τ l c c' := by
  cases c with
  | box cs => obtain ⟨ys, hk, hl, hh⟩ := fz1L_sound h; exact ⟨_, hk, .box hl hh⟩
  | own => exact ⟨_, h, .same (by intro cs h; cases h)⟩
  | iter => exact ⟨_, h, .same (by intro cs h; cases h)⟩
  | mp => exact ⟨_, h, .same (by intro cs h; cases h)⟩
  | ro => exact ⟨_, h, .same (by intro cs h; cases h)⟩
theorem fzP_sound {id τ l} {Φ : Phi} : ∀ {K : Phi → Prop}, fzP id τ l Φ K → ∃ Φ', K Φ' ∧ ∀ j, (∀ c', Phi.get Φ' j = some c' → j ≠ id ∧ ∃ c, Phi.get Φ j = some c ∧ FzC id τ l c c') ∧ (j ≠ id → ∀ c, Phi.get Φ j = some c → ∃ c', Phi.get Φ' j = some c') := by
  induction Φ with
  | nil => intro K h; exact ⟨[], h, fun j => ⟨fun c' h => by simp [Phi.get] at h, fun _ c h => by simp [Phi.get] at h⟩⟩
  | cons x r ih =>
    obtain ⟨k, c⟩ := x
    intro K h
    unfold fzP at h
    cases hb : Nat.beq k id with
    | true =>
      rw [hb] at h
      obtain rfl := beq_of hb
      obtain ⟨Φ', hk, hh⟩ := ih h
      refine ⟨Φ', hk, fun j => ⟨fun c' hj => ?_, fun hne c1 hj => ?_⟩⟩
      · obtain ⟨h1, c0, h2, h3⟩ := (hh j).1 c' hj
        exact ⟨h1, c0, by rw [phi_cons, nbeq_of (fun he => h1 he.symm)]; exact h2, h3⟩
      · rw [phi_cons, nbeq_of (fun he => hne he.symm)] at hj
        exact (hh j).2 hne c1 hj
    | false =>
      rw [hb] at h
      simp only [cond_false] at h
      obtain ⟨c', h, hc⟩ := fzC_sound h
      obtain ⟨Φ', hk, hh⟩ := ih h
      refine ⟨_, hk, fun j => ?_⟩
      rw [phi_cons, phi_cons]
      cases hq : Nat.beq k j with
      | true =>
        obtain rfl := beq_of hq
        have hne : k ≠ id := by rintro rfl; rw [Nat.beq_refl] at hb; cases hb
        exact ⟨fun c1 h => by simp at h; subst h; exact ⟨hne, c, rfl, hc⟩, fun _ c1 h => ⟨c', rfl⟩⟩
      | false => exact hh j

theorem mem_fz {id τ l r β Φ w Φ'} (m : MemSat r β Φ w) (hg : Phi.get Φ id = some (.own τ l))
    (hΦ : ∀ j, (∀ c', Phi.get Φ' j = some c' → j ≠ id ∧ ∃ c, Phi.get Φ j = some c ∧ FzC id τ l c c') ∧ (j ≠ id → ∀ c, Phi.get Φ j = some c → ∃ c', Phi.get Φ' j = some c')) :
    MemSat (frz (bq id) r β Φ w) β Φ' w ∧ Hid r β Φ w (frz (bq id) r β Φ w) β Φ' w := by
  have notin : ∀ b j c0, j ≠ id → Phi.get Φ j = some c0 → c0.blk (β j) = some b → frz (bq id) r β Φ w b = none := by
    intro b j c0 hne h1 h2
    rw [frz_not, m.sep _ _ _ h1 h2]
    intro i c q1 q2 _ q4
    rw [bq_eq q1] at q2 q4
    exact hne (m.nod _ _ _ _ _ h1 q2 h2 q4)
  refine ⟨⟨frz_vis m, fun j c' hj => ?_, fun j c' b hj hb => ?_, fun j j' c c' b h1 h1' h2 h2' => ?_⟩, rfl, rfl, rfl, Nat.le_refl _, fun b hb h1 h2 => ⟨rfl, ?_, fun j c' hj hc => ?_⟩, fun j c hj hk => ⟨rfl, ?_⟩⟩
  · obtain ⟨hne, c, h1, h2⟩ := (hΦ j).1 c' hj
    have hs := m.chs _ _ h1
    cases h2 with
    | same hnb => exact hs.keep (frz_le m) (fun _ _ => rfl) (fun cells he => (hnb cells he).elim)
    | box hl hh =>
      cases hs with
      | box hx hw hlc hc =>
        refine .box hx hw (by rw [hlc, hl]) fun i sv v p1 p2 => ?_
        obtain ⟨sv0, q1, q2⟩ := hh i sv p1
        exact q2 r β Φ w v m hg (hc i sv0 v q1 p2)
  · obtain ⟨hne, c, h1, h2⟩ := (hΦ j).1 c' hj
    rw [h2.blk] at hb
    exact notin b j c hne h1 hb
  · obtain ⟨hne, c0, p1, p2⟩ := (hΦ j).1 c h1
    obtain ⟨hne', c0', p1', p2'⟩ := (hΦ j').1 c' h1'
    rw [p2.blk] at h2; rw [p2'.blk] at h2'
    exact m.nod _ _ _ _ _ p1 p1' h2 h2'
  · rw [frz_not (fun i c _ q2 _ => h2 i c q2)]; exact h1
  · obtain ⟨hne, c, p1, p2⟩ := (hΦ j).1 c' hj
    rw [p2.blk] at hc
    exact h2 j c p1 hc
  · have hne : j ≠ id := by
      rintro rfl
      rw [hg] at hj; cases hj; exact hk rfl
    obtain ⟨c', h1⟩ := (hΦ j).2 hne c hj
    obtain ⟨_, c0, p1, p2⟩ := (hΦ j).1 c' h1
    rw [hj] at p1; cases p1
    exact ⟨c', h1, p2.kind⟩

theorem frzK_sound {B : Base} {e N a w} : ∀ {ids : List Nat} {xs σ Φ} {K : List SV → Env → Phi → Prop}, frzK ids xs σ Φ K → ∀ {r β vs}, Sat B e N r β σ Φ a w → RelL r β xs vs →
    ∃ xs' σ' Φ' r', K xs' σ' Φ' ∧ Sat B e N r' β σ' Φ' a w ∧ RelL r' β xs' vs ∧ (∀ D, GdIn D σ → GdIn D σ') := by
  intro ids
  induction ids with
  | nil => intro xs σ Φ K h r β vs s hv; exact ⟨xs, σ, Φ, r, h, s, hv, fun D hD => hD⟩
  | cons id ids ih =>
    intro xs σ Φ K h r β vs s hv
    simp only [frzK] at h
    split at h
    · rename_i τ l hg
      obtain ⟨ys, h, hl, hh⟩ := fz1L_sound h
      obtain ⟨σ1, h, hσ⟩ := fzE_sound h
      obtain ⟨Φ1, h, hΦ⟩ := fzP_sound h
      obtain ⟨m1, hid⟩ := mem_fz s.mem hg hΦ
      have s1 : Sat B e N (frz (bq id) r β Φ w) β σ1 Φ1 a w := s.step (s.agree.of fun k g sv' hk => by
        obtain ⟨sv, q1, q2⟩ := hσ k g sv' hk
        exact ⟨sv, q1, fun v hr => q2 r β Φ w v s.mem hg hr⟩) m1 (frz_le s.mem) hid
      obtain ⟨xs', σ', Φ', r', hk, s', hv', hD⟩ := ih h s1 (relL_of hl hh (fun x y v hR hx => hR r β Φ w v s.mem hg hx) hv)
      refine ⟨xs', σ', Φ', r', hk, s', hv', fun D h0 => hD D fun k s0 w0 sv0 hk0 => ?_⟩
      obtain ⟨sv, q1, _⟩ := hσ k _ _ hk0
      exact h0 _ _ _ _ q1
    · exact ih h s hv
    · exact h.elim
end Go.Vc

namespace Go.Vc
set_option autoImplicit false
set_option linter.unusedVariables false
set_option linter.unusedSimpArgs false

/-! Tables of names. -/
abbrev NN := List (Nat × Nat)
def lookF : NN → Nat → Option Nat
  | [], _ => none
  | (a, j) :: r, i => bif Nat.beq a i then some j else lookF r i
def lookB : NN → Nat → Option Nat
  | [], _ => none
  | (a, j) :: r, i => bif Nat.beq j i then some a else lookB r i
theorem lookK_sound {m : NN} {i : Nat} {K : Nat → Prop} (h : lookK m i K) : ∃ j, lookF m i = some j ∧ K j := by
  induction m with
  | nil => exact h.elim
  | cons x r ih =>
    obtain ⟨a, j⟩ := x
    simp only [lookK] at h
    simp only [lookF]
    cases hb : Nat.beq a i with
    | true => rw [hb] at h; exact ⟨j, rfl, h⟩
    | false => rw [hb] at h; exact ih h
theorem lookF_mem {m : NN} {i j : Nat} (h : lookF m i = some j) : (i, j) ∈ m := by
  induction m with
  | nil => cases h
  | cons x r ih =>
    obtain ⟨a, c⟩ := x
    simp only [lookF] at h
    cases hb : Nat.beq a i with
    | true => rw [hb] at h; simp at h; obtain rfl := beq_of hb; subst h; simp
    | false => rw [hb] at h; exact List.mem_cons_of_mem _ (ih h)
theorem lookB_mem {m : NN} {i j : Nat} (h : lookB m j = some i) : (i, j) ∈ m := by
  induction m with
  | nil => cases h
  | cons x r ih =>
    obtain ⟨a, c⟩ := x
    simp only [lookB] at h
    cases hb : Nat.beq c j with
    | true => rw [hb] at h; simp at h; obtain rfl := beq_of hb; subst h; simp
    | false => rw [hb] at h; exact List.mem_cons_of_mem _ (ih h)
theorem hasFst_iff {m : NN} {i : Nat} : hasFst m i = true ↔ ∃ j, (i, j) ∈ m := by
  induction m with
  | nil => simp [hasFst]
  | cons x r ih =>
    obtain ⟨a, c⟩ := x
    simp only [hasFst, Bool.or_eq_true, ih]
    constructor
    · rintro (h | ⟨j, h⟩)
      · obtain rfl := beq_of h; exact ⟨c, by simp⟩
      · exact ⟨j, by simp [h]⟩
    · rintro ⟨j, h⟩
      simp only [List.mem_cons, Prod.mk.injEq] at h
      rcases h with ⟨rfl, rfl⟩ | h
      · exact .inl (Nat.beq_refl _)
      · exact .inr ⟨j, h⟩
theorem hasSnd_iff {m : NN} {j : Nat} : hasSnd m j = true ↔ ∃ i, (i, j) ∈ m := by
  induction m with
  | nil => simp [hasSnd]
  | cons x r ih =>
    obtain ⟨a, c⟩ := x
    simp only [hasSnd, Bool.or_eq_true, ih]
    constructor
    · rintro (h | ⟨j, h⟩)
      · obtain rfl := beq_of h; exact ⟨a, by simp⟩
      · exact ⟨j, by simp [h]⟩
    · rintro ⟨i, h⟩
      simp only [List.mem_cons, Prod.mk.injEq] at h
      rcases h with ⟨rfl, rfl⟩ | h
      · exact .inl (Nat.beq_refl _)
      · exact .inr ⟨i, h⟩
theorem lookF_of {m : NN} (hn : nodupFst m = true) {i j : Nat} (h : (i, j) ∈ m) : lookF m i = some j := by
  induction m with
  | nil => cases h
  | cons x r ih =>
    obtain ⟨a, c⟩ := x
    simp only [nodupFst, Bool.and_eq_true, Bool.not_eq_true'] at hn
    simp only [List.mem_cons, Prod.mk.injEq] at h
    simp only [lookF]
    rcases h with ⟨rfl, rfl⟩ | h
    · rw [Nat.beq_refl]; rfl
    · have : a ≠ i := by
        rintro rfl
        have := hasFst_iff.2 ⟨j, h⟩
        rw [hn.1] at this; cases this
      rw [nbeq_of this]; exact ih hn.2 h
theorem lookB_of {m : NN} (hn : nodupSnd m = true) {i j : Nat} (h : (i, j) ∈ m) : lookB m j = some i := by
  induction m with
  | nil => cases h
  | cons x r ih =>
    obtain ⟨a, c⟩ := x
    simp only [nodupSnd, Bool.and_eq_true, Bool.not_eq_true'] at hn
    simp only [List.mem_cons, Prod.mk.injEq] at h
    simp only [lookB]
    rcases h with ⟨rfl, rfl⟩ | h
    · rw [Nat.beq_refl]; rfl
    · have : c ≠ j := by
        rintro rfl
        have := hasSnd_iff.2 ⟨i, h⟩
        rw [hn.1] at this; cases this
      rw [nbeq_of this]; exact ih hn.2 h
theorem nodupFst_app {P m : NN} (h : nodupFst (P ++ m) = true) : nodupFst m = true := by
  induction P with
  | nil => exact h
  | cons x r ih => obtain ⟨a, c⟩ := x; simp only [List.cons_append, nodupFst, Bool.and_eq_true] at h; exact ih h.2
theorem nodupSnd_app {P m : NN} (h : nodupSnd (P ++ m) = true) : nodupSnd m = true := by
  induction P with
  | nil => exact h
  | cons x r ih => obtain ⟨a, c⟩ := x; simp only [List.cons_append, nodupSnd, Bool.and_eq_true] at h; exact ih h.2
theorem swapK_sound {m : NN} : ∀ {K : NN → Prop}, swapK m K → ∃ M, K M ∧ ∀ i j, (j, i) ∈ M ↔ (i, j) ∈ m := by
  induction m with
  | nil => intro K h; exact ⟨[], h, fun i j => by simp⟩
  | cons x r ih =>
    obtain ⟨a, c⟩ := x
    intro K h
    obtain ⟨M, hk, hM⟩ := ih h
    refine ⟨_, hk, fun i j => ?_⟩
    simp only [List.mem_cons, Prod.mk.injEq, hM]
    constructor
    · rintro (⟨rfl, rfl⟩ | h)
      · exact .inl ⟨rfl, rfl⟩
      · exact .inr h
    · rintro (⟨rfl, rfl⟩ | h)
      · exact .inl ⟨rfl, rfl⟩
      · exact .inr h

/-! The same values, under other names. -/
def Rn (m : NN) (β β' : Bind) : Prop := ∀ i j, lookF m i = some j → β' j = β i
def RnR (m : NN) (x y : SV) : Prop := ∀ r β β' v, Rn m β β' → Rel r β x v → Rel r β' y v
theorem rn0_sound {m x} {K : SV → Prop} (h : rn0 m x K) : ∃ y, K y ∧ RnR m x y := by
  unfold rn0 at h
  split at h
  · obtain ⟨j, hj, h⟩ := lookK_sound h
    refine ⟨_, h, fun r β β' v hm hr => ?_⟩
    cases hr with
    | loc hb => exact .loc (by rw [hm _ _ hj]; exact hb)
  · obtain ⟨j, hj, h⟩ := lookK_sound h
    refine ⟨_, h, fun r β β' v hm hr => ?_⟩
    cases hr with
    | own hb => rw [← hm _ _ hj] at hb ⊢; exact .own hb
  · obtain ⟨j, hj, h⟩ := lookK_sound h
    refine ⟨_, h, fun r β β' v hm hr => ?_⟩
    cases hr with
    | oel hb => exact .oel (by rw [hm _ _ hj]; exact hb)
  · obtain ⟨j, hj, h⟩ := lookK_sound h
    refine ⟨_, h, fun r β β' v hm hr => ?_⟩
    cases hr with
    | mref hb => exact .mref (by rw [hm _ _ hj]; exact hb)
  · cases ho : SV.okIds (fun _ => false) x with
    | false => rw [ho] at h; exact h.elim
    | true => rw [ho] at h; exact ⟨x, h, fun r β β' v _ hr => hr.pure ho β'⟩
theorem rn0L_sound {m xs} {K : List SV → Prop} (h : rn0L m xs K) : ∃ ys, K ys ∧ ys.length = xs.length ∧ ∀ (i : Nat) y, ys[i]? = some y → ∃ x, xs[i]? = some x ∧ RnR m x y :=
  lift_list (D := rn0 m) (DL := rn0L m) (fun _ h => h) (fun _ _ _ h => h) (fun _ _ h => rn0_sound h) xs K h
theorem rn1_sound {m x} {K : SV → Prop} (h : rn1 m x K) : ∃ y, K y ∧ RnR m x y := by
  unfold rn1 at h
  split at h
  · obtain ⟨ys, hk, hl, hh⟩ := rn0L_sound h
    refine ⟨_, hk, fun r β β' v hm hr => ?_⟩
    obtain ⟨cs, rfl, hcs⟩ := hr.aggL_inv
    exact .aggL (relL_of hl hh (fun x y v hR hx => hR r β β' v hm hx) hcs)
  · obtain ⟨ys, hk, hl, hh⟩ := rn0L_sound h
    refine ⟨_, hk, fun r β β' v hm hr => ?_⟩
    obtain ⟨cs, rfl, hcs⟩ := hr.fnL_inv
    exact .fnL (relL_of hl hh (fun x y v hR hx => hR r β β' v hm hx) hcs)
  · exact rn0_sound h
theorem rn1L_sound {m xs} {K : List SV → Prop} (h : rn1L m xs K) : ∃ ys, K ys ∧ ys.length = xs.length ∧ ∀ (i : Nat) y, ys[i]? = some y → ∃ x, xs[i]? = some x ∧ RnR m x y :=
  lift_list (D := rn1 m) (DL := rn1L m) (fun _ h => h) (fun _ _ _ h => h) (fun _ _ h => rn1_sound h) xs K h
theorem rn2_sound {m x} {K : SV → Prop} (h : rn2 m x K) : ∃ y, K y ∧ RnR m x y := by
  unfold rn2 at h
  split at h
  · obtain ⟨ys, hk, hl, hh⟩ := rn1L_sound h
    refine ⟨_, hk, fun r β β' v hm hr => ?_⟩
    obtain ⟨cs, rfl, hcs⟩ := hr.tupL_inv
    exact .tupL (relL_of hl hh (fun x y v hR hx => hR r β β' v hm hx) hcs)
  · exact rn1_sound h
inductive RnC (m : NN) : Chunk → Chunk → Prop
  | same {c} (h : ∀ cs, c ≠ .box cs) : RnC m c c
  | box {cs cs'} (hl : cs'.length = cs.length) (h : ∀ (i : Nat) (y : SV), cs'[i]? = some y → ∃ x, cs[i]? = some x ∧ RnR m x y) : RnC m (.box cs) (.box cs')
theorem RnC.kind {m c c'} (h : RnC m c c') : c'.kind = c.kind := by cases h <;> rfl
theorem RnC.blk {m c c'} (h : RnC m c c') (x : Value) : c'.blk x = c.blk x := by
  cases h with
  | same => rfl
  | box => exact blk_box' _ _ _
theorem rnC_sound {m c} {K : Chunk → Prop} (h : rnC m c K) : ∃ c', K c' ∧ RnC m c c' := by
  cases c with
  | box cs => obtain ⟨ys, hk, hl, hh⟩ := rn1L_sound h; exact ⟨_, hk, .box hl hh⟩
  | own => exact ⟨_, h, .same (by intro cs h; cases h)⟩
  | iter => exact ⟨_, h, .same (by intro cs h; cases h)⟩
  | mp => exact ⟨_, h, .same (by intro cs h; cases h)⟩
  | ro => exact ⟨_, h, .same (by intro cs h; cases h)⟩
/-- a chunk, under another name, in another memory that has its block -/
theorem RnC.sat {m c c'} (h : RnC m c c') {r r' : Mem} (hle : r.le r') {β β' w w' x} (hm : Rn m β β') (hs : c.Sat r β w x) (hb : ∀ b, c.blk x = some b → w'.heap[b]? = w.heap[b]?) : c'.Sat r' β' w' x := by
  cases h with
  | same hnb => exact hs.keep hle hb (fun cells he => (hnb cells he).elim)
  | box hl hh =>
    cases hs with
    | box hx hw hlc hc =>
      refine .box hx (by rw [hb _ (by rw [hx]; rfl)]; exact hw) (by rw [hlc, hl]) fun i sv v p1 p2 => ?_
      obtain ⟨sv0, q1, q2⟩ := hh i sv p1
      exact q2 _ _ _ _ hm ((hc i sv0 v q1 p2).mono hle)

theorem subPK_sound {Φ : Phi} {m0 : NN} : ∀ {m : NN} {K : Phi → Prop}, subPK Φ m0 m K → ∃ Φc, K Φc ∧
    (∀ j ch, Phi.get Φc j = some ch → ∃ i ch0, (i, j) ∈ m ∧ Phi.get Φ i = some ch0 ∧ RnC m0 ch0 ch) ∧ (∀ i j, (i, j) ∈ m → ∃ ch, Phi.get Φc j = some ch) := by
  intro m
  induction m with
  | nil => intro K h; exact ⟨[], h, fun j ch h => by simp [Phi.get] at h, fun i j h => by cases h⟩
  | cons x r ih =>
    obtain ⟨a, c⟩ := x
    intro K h
    simp only [subPK] at h
    split at h
    · rename_i ch0 hg
      obtain ⟨ch, h, hc⟩ := rnC_sound h
      obtain ⟨Φc, hk, h1, h2⟩ := ih h
      refine ⟨_, hk, fun j ch' hj => ?_, fun i j hij => ?_⟩
      · rw [phi_cons] at hj
        cases hb : Nat.beq c j with
        | true => obtain rfl := beq_of hb; rw [hb] at hj; simp at hj; subst hj; exact ⟨a, ch0, by simp, hg, hc⟩
        | false =>
          rw [hb] at hj
          obtain ⟨i, c0, q1, q2, q3⟩ := h1 j ch' hj
          exact ⟨i, c0, by simp [q1], q2, q3⟩
      · rw [phi_cons]
        cases hb : Nat.beq c j with
        | true => exact ⟨ch, rfl⟩
        | false =>
          simp only [List.mem_cons, Prod.mk.injEq] at hij
          rcases hij with ⟨rfl, rfl⟩ | hij
          · rw [Nat.beq_refl] at hb; cases hb
          · exact h2 i j hij
    · exact h.elim

/-! Ids that may no longer be named. -/
theorem okIds_and {p q : Nat → Bool} : ∀ {sv : SV}, sv.okIds p = true → sv.okIds q = true → sv.okIds (fun i => p i && q i) = true := by
  intro sv
  refine SV.rec (motive_1 := fun sv => sv.okIds p = true → sv.okIds q = true → sv.okIds (fun i => p i && q i) = true) (motive_2 := fun _ => True) (motive_3 := fun l => SV.okIdsL p l = true → SV.okIdsL q l = true → SV.okIdsL (fun i => p i && q i) l = true)
    ?_ ?_ ?_ ?_ ?_ ?_ ?_ ?_ ?_ ?_ ?_ ?_ ?_ ?_ ?_ ?_ ?_ ?_ ?_ ?_ sv
  all_goals try (intros; trivial)
  all_goals try (intros; simp_all [SV.okIds, SV.okIdsL]; done)
theorem okIds_all : ∀ (sv : SV), sv.okIds (fun _ => true) = true := by
  intro sv
  refine SV.rec (motive_1 := fun sv => sv.okIds (fun _ => true) = true) (motive_2 := fun _ => True) (motive_3 := fun l => SV.okIdsL (fun _ => true) l = true)
    ?_ ?_ ?_ ?_ ?_ ?_ ?_ ?_ ?_ ?_ ?_ ?_ ?_ ?_ ?_ ?_ ?_ ?_ ?_ ?_ sv
  all_goals try (intros; trivial)
  all_goals try (intros; simp_all [SV.okIds, SV.okIdsL]; done)
theorem okIds_mono {p q : Nat → Bool} (hpq : ∀ i, p i = true → q i = true) : ∀ {sv : SV}, sv.okIds p = true → sv.okIds q = true := fun {sv} h => SV.okIds_mono hpq sv h
/-- it names none of these -/
def NoneOf (S : List Nat) (sv : SV) : Prop := ∀ i ∈ S, sv.okIds (fun k => !Nat.beq k i) = true
theorem NoneOf.ok {S : List Nat} {sv : SV} (h : NoneOf S sv) : sv.okIds (fun k => !memN k S) = true := by
  induction S with
  | nil =>
    exact okIds_mono (fun i _ => rfl) (okIds_all sv)
  | cons i S ih =>
    have h1 := h i (by simp)
    have h2 := ih (fun k hk => h k (by simp [hk]))
    refine okIds_mono (fun k hk => ?_) (okIds_and h1 h2)
    simp only [Bool.and_eq_true, Bool.not_eq_true'] at hk
    simp only [memN, Bool.not_eq_true', Bool.or_eq_false_iff]
    refine ⟨?_, hk.2⟩
    have := hk.1
    cases hq : Nat.beq i k with
    | false => rfl
    | true => obtain rfl := beq_of hq; rw [Nat.beq_refl] at this; cases this
theorem memN_iff {i : Nat} {l : List Nat} : memN i l = true ↔ i ∈ l := by
  induction l with
  | nil => simp [memN]
  | cons x r ih =>
    simp only [memN, Bool.or_eq_true, ih, List.mem_cons]
    constructor
    · rintro (h | h)
      · exact .inl (beq_of h).symm
      · exact .inr h
    · rintro (rfl | h)
      · exact .inl (Nat.beq_refl _)
      · exact .inr h
end Go.Vc

namespace Go.Vc
set_option autoImplicit false
set_option linter.unusedVariables false
set_option linter.unusedSimpArgs false

theorem reachK_sound {Φ : Phi} : ∀ {f : Nat} {todo : List Nat} {m : NN} {ns : List Nat} {K : NN → Prop}, reachK Φ f todo m ns K → ∃ m, K m
  | 0, _, _, _, _, h => h.elim
  | f + 1, [], m, _, K, h => ⟨m, h⟩
  | f + 1, i :: todo, m, ns, K, h => by
    simp only [reachK] at h
    have snoc : ∀ {x : Nat × Nat} {l : NN} {K : NN → Prop}, snocK x l K → ∃ l', K l' := by
      intro x l
      induction l with
      | nil => intro K h; exact ⟨_, h⟩
      | cons y r ih => intro K h; obtain ⟨l', h⟩ := ih h; exact ⟨_, h⟩
    cases hb : hasFst m i with
    | true => rw [hb] at h; exact reachK_sound h
    | false =>
      rw [hb] at h
      simp only [cond_false] at h
      split at h
      · exact h.elim
      · split at h
        · obtain ⟨_, h⟩ := snoc h; exact reachK_sound h
        · obtain ⟨_, h⟩ := snoc h; exact reachK_sound h
        · exact h.elim

/-- behind what is stale for these ids -/
def StV (S : List Nat) (sv sv' : SV) : Prop := sv' = .und ∨ (sv' = sv ∧ NoneOf S sv)
inductive StS (S : List Nat) : Chunk → Chunk → Prop
  | same {c} (h : ∀ cs, c ≠ .box cs) : StS S c c
  | box {cs cs'} (hl : cs'.length = cs.length) (h : ∀ (i : Nat) (sv' : SV), cs'[i]? = some sv' → ∃ sv, cs[i]? = some sv ∧ StV S sv sv') : StS S (.box cs) (.box cs')
theorem StS.kind {S c c'} (h : StS S c c') : c'.kind = c.kind := by cases h <;> rfl
theorem StS.blk {S c c'} (h : StS S c c') (x : Value) : c'.blk x = c.blk x := by
  cases h with
  | same => rfl
  | box => exact blk_box' _ _ _
theorem StS.refl (c : Chunk) : StS [] c c := by
  cases c with
  | box cs => exact .box rfl fun i sv' h => ⟨sv', h, .inr ⟨rfl, fun _ h => by cases h⟩⟩
  | _ => exact .same (by intro cs h; cases h)
theorem StV.cons {i S sv sv1 sv'} (h1 : Stale i sv sv1) (h2 : StV S sv1 sv') : StV (i :: S) sv sv' := by
  rcases h2 with rfl | ⟨rfl, h2⟩
  · exact .inl rfl
  · rcases h1 with rfl | ⟨rfl, h1⟩
    · exact .inl rfl
    · refine .inr ⟨rfl, fun k hk => ?_⟩
      cases hk with
      | head => exact h1
      | tail _ hk => exact h2 k hk
theorem StS.cons {i S c c1 c'} (h1 : StaleC i c c1) (h2 : StS S c1 c') : StS (i :: S) c c' := by
  cases h1 with
  | same hn =>
    cases h2 with
    | same => exact .same hn
    | box => exact absurd rfl (hn _)
  | box hl hh =>
    cases h2 with
    | same hn => exact absurd rfl (hn _)
    | box hl2 hh2 =>
      refine .box (hl2.trans hl) fun k sv' hk => ?_
      obtain ⟨sv1, q1, q2⟩ := hh2 k sv' hk
      obtain ⟨sv, p1, p2⟩ := hh k sv1 q1
      exact ⟨sv, p1, StV.cons p2 q2⟩

theorem staleMK_sound {Φ0 : Phi} : ∀ {m : NN} {σ : Env} {Φ : Phi} {K : Env → Phi → Prop}, staleMK Φ0 m σ Φ K →
    ∃ S σ' Φ', K σ' Φ' ∧ (∀ i j (τ : Ty) l, (i, j) ∈ m → Phi.get Φ0 i = some (.own τ l) → i ∈ S) ∧
      (∀ k g sv', Env.get σ' k = some (g, sv') → ∃ sv, Env.get σ k = some (g, sv) ∧ StV S sv sv') ∧
      (∀ j, (∀ c', Phi.get Φ' j = some c' → ∃ c, Phi.get Φ j = some c ∧ StS S c c') ∧ (∀ c, Phi.get Φ j = some c → ∃ c', Phi.get Φ' j = some c')) := by
  intro m
  induction m with
  | nil =>
    intro σ Φ K h
    exact ⟨[], σ, Φ, h, (fun i j τ l h => by cases h), fun k g sv' hk => ⟨sv', hk, .inr ⟨rfl, fun _ h => by cases h⟩⟩, fun j => ⟨fun c' h => ⟨c', h, .refl _⟩, fun c h => ⟨c, h⟩⟩⟩
  | cons x r ih =>
    obtain ⟨i, j0⟩ := x
    intro σ Φ K h
    simp only [staleMK] at h
    split at h
    · obtain ⟨σ1, h, hσ1⟩ := staleE_sound h
      obtain ⟨Φ1, h, hΦ1⟩ := staleP_sound h
      obtain ⟨S, σ', Φ', hk, h1, h2, h3⟩ := ih h
      refine ⟨i :: S, σ', Φ', hk, fun k j τ l hm hg => ?_, fun k g sv' hs => ?_, fun j => ⟨fun c' hj => ?_, fun c hj => ?_⟩⟩
      · simp only [List.mem_cons, Prod.mk.injEq] at hm
        rcases hm with ⟨rfl, rfl⟩ | hm
        · simp
        · exact List.mem_cons_of_mem _ (h1 k j τ l hm hg)
      · obtain ⟨sv1, q1, q2⟩ := h2 k g sv' hs
        obtain ⟨sv, p1, p2⟩ := hσ1 k g sv1 q1
        exact ⟨sv, p1, StV.cons p2 q2⟩
      · obtain ⟨c1, q1, q2⟩ := (h3 j).1 c' hj
        obtain ⟨c, p1, p2⟩ := (hΦ1 j).1 c1 q1
        exact ⟨c, p1, StS.cons p2 q2⟩
      · obtain ⟨c1, q1⟩ := (hΦ1 j).2 c hj
        exact (h3 j).2 c1 q1
    · rename_i hno
      obtain ⟨S, σ', Φ', hk, h1, h2, h3⟩ := ih h
      refine ⟨S, σ', Φ', hk, fun k j τ l hm hg => ?_, h2, h3⟩
      simp only [List.mem_cons, Prod.mk.injEq] at hm
      rcases hm with ⟨rfl, rfl⟩ | hm
      · exact absurd hg (hno τ l)
      · exact h1 k j τ l hm hg

theorem newMK_sound {σ : Env} {Φ : Phi} : ∀ {Φ' : Phi} {M : NN} {n : Nat} {K : NN → Nat → Prop}, newMK σ Φ Φ' M n K →
    ∃ P M' n', M' = P ++ M ∧ K M' n' ∧ (∀ j i, (j, i) ∈ P → freshE i σ = true ∧ freshP i Φ = true) ∧ (∀ j ch, Phi.get Φ' j = some ch → hasFst M' j = true) := by
  intro Φ'
  induction Φ' with
  | nil => intro M n K h; exact ⟨[], M, n, rfl, h, (fun j i h => by cases h), fun j ch h => by simp [Phi.get] at h⟩
  | cons x r ih =>
    obtain ⟨j0, c0⟩ := x
    intro M n K h
    simp only [newMK] at h
    have key : ∀ {M1 : NN} {P M' : NN}, M' = P ++ M1 → hasFst M1 j0 = true → (∀ j ch, Phi.get r j = some ch → hasFst M' j = true) → ∀ j ch, Phi.get ((j0, c0) :: r) j = some ch → hasFst M' j = true := by
      intro M1 P M' he hj hr j ch hg
      rw [phi_cons] at hg
      cases hb : Nat.beq j0 j with
      | true =>
        obtain rfl := beq_of hb
        obtain ⟨i, hi⟩ := hasFst_iff.1 hj
        exact hasFst_iff.2 ⟨i, by rw [he]; simp [hi]⟩
      | false => rw [hb] at hg; exact hr j ch hg
    cases hb : hasFst M j0 with
    | true =>
      rw [hb] at h
      obtain ⟨P, M', n', he, hk, h1, h2⟩ := ih h
      exact ⟨P, M', n', he, hk, h1, key he hb h2⟩
    | false =>
      rw [hb] at h
      simp only [cond_false] at h
      cases hc : (freshE n σ && (freshP n Φ && !hasSnd M n)) with
      | false => rw [hc] at h; exact h.elim
      | true =>
        rw [hc] at h
        simp only [Bool.and_eq_true] at hc
        obtain ⟨P, M', n', he, hk, h1, h2⟩ := ih h
        refine ⟨P ++ [(j0, n)], M', n', by rw [he]; simp, hk, fun j i hm => ?_, key he (hasFst_iff.2 ⟨n, by simp⟩) h2⟩
        simp only [List.mem_append, List.mem_singleton, Prod.mk.injEq] at hm
        rcases hm with hm | ⟨rfl, rfl⟩
        · exact h1 j i hm
        · exact ⟨hc.1, hc.2.1⟩

theorem backPK_sound {M : NN} (hn : nodupFst M = true) (hn2 : nodupSnd M = true) : ∀ {Φ' : Phi} {K : Phi → Prop}, backPK M Φ' K → ∃ Φb, K Φb ∧
    (∀ i ch, Phi.get Φb i = some ch → ∃ j ch', lookF M j = some i ∧ Phi.get Φ' j = some ch' ∧ RnC M ch' ch) ∧
    (∀ j ch', Phi.get Φ' j = some ch' → ∃ i ch, lookF M j = some i ∧ Phi.get Φb i = some ch ∧ RnC M ch' ch) := by
  intro Φ'
  induction Φ' with
  | nil => intro K h; exact ⟨[], h, fun i ch h => by simp [Phi.get] at h, fun j ch h => by simp [Phi.get] at h⟩
  | cons x r ih =>
    obtain ⟨j0, c0⟩ := x
    intro K h
    obtain ⟨i0, hj0, h⟩ := lookK_sound h
    obtain ⟨c1, h, hc⟩ := rnC_sound h
    obtain ⟨Φb, hk, h1, h2⟩ := ih h
    have inj : ∀ {j i}, lookF M j = some i → (j = j0 ↔ i = i0) := by
      intro j i hj
      constructor
      · rintro rfl; rw [hj0] at hj; cases hj; rfl
      · rintro rfl
        have a1 := lookB_of hn2 (lookF_mem hj)
        have a2 := lookB_of hn2 (lookF_mem hj0)
        rw [a1] at a2; cases a2; rfl
    refine ⟨_, hk, fun i ch hi => ?_, fun j ch' hj => ?_⟩
    · rw [phi_cons] at hi
      cases hb : Nat.beq i0 i with
      | true =>
        obtain rfl := beq_of hb
        rw [hb] at hi; simp at hi; subst hi
        exact ⟨j0, c0, hj0, by rw [phi_cons, Nat.beq_refl]; rfl, hc⟩
      | false =>
        rw [hb] at hi
        obtain ⟨j, ch', q1, q2, q3⟩ := h1 i ch hi
        refine ⟨j, ch', q1, ?_, q3⟩
        have : ¬ j = j0 := fun he => by
          have := (inj q1).1 he
          subst this; rw [Nat.beq_refl] at hb; cases hb
        rw [phi_cons, nbeq_of (fun he => this he.symm)]; exact q2
    · rw [phi_cons] at hj
      cases hb : Nat.beq j0 j with
      | true =>
        obtain rfl := beq_of hb
        rw [hb] at hj; simp at hj; subst hj
        exact ⟨i0, c1, hj0, by rw [phi_cons, Nat.beq_refl]; rfl, hc⟩
      | false =>
        rw [hb] at hj
        obtain ⟨i, ch, q1, q2, q3⟩ := h2 j ch' hj
        refine ⟨i, ch, q1, ?_, q3⟩
        have : ¬ i = i0 := fun he => by
          have := (inj q1).2 he
          subst this; rw [Nat.beq_refl] at hb; cases hb
        rw [phi_cons, nbeq_of (fun he => this he.symm)]; exact q2

theorem dropMK_sound {m : NN} : ∀ {Φ : Phi} {K : Phi → Prop}, dropMK m Φ K → ∃ Φr, K Φr ∧ ∀ i, Phi.get Φr i = bif hasFst m i then none else Phi.get Φ i := by
  intro Φ
  induction Φ with
  | nil => intro K h; exact ⟨[], h, fun i => by cases hasFst m i <;> rfl⟩
  | cons x r ih =>
    obtain ⟨k, c⟩ := x
    intro K h
    simp only [dropMK] at h
    cases hb : hasFst m k with
    | true =>
      rw [hb] at h
      obtain ⟨Φr, hk, hh⟩ := ih h
      refine ⟨Φr, hk, fun i => ?_⟩
      rw [hh, phi_cons]
      cases hq : Nat.beq k i with
      | true => obtain rfl := beq_of hq; rw [hb]; rfl
      | false => rfl
    | false =>
      rw [hb] at h
      obtain ⟨Φr, hk, hh⟩ := ih h
      refine ⟨_, hk, fun i => ?_⟩
      rw [phi_cons, phi_cons, hh]
      cases hq : Nat.beq k i with
      | true => obtain rfl := beq_of hq; rw [hb]; rfl
      | false => rfl
theorem appPK_eq (F R : Phi) : ∀ (K : Phi → Prop), appPK F R K = K (F ++ R) := by
  induction F with
  | nil => intro K; rfl
  | cons e F ih => intro K; show appPK F R _ = _; rw [ih]; rfl
theorem phi_app (F R : Phi) (id : Nat) : Phi.get (F ++ R) id = match Phi.get F id with | some c => some c | none => Phi.get R id := by
  induction F with
  | nil => rfl
  | cons x r ih =>
    obtain ⟨k, c⟩ := x
    rw [List.cons_append, phi_cons, phi_cons, ih]
    cases Nat.beq k id <;> rfl

theorem plainI0_keep {r r2 β sv v} (h : Rel r β sv v) (hp : sv.plainI0 = true) : Rel r2 β sv v := plainI0_rel h hp (fun _ _ => rfl)
theorem plainI1_keep {r r2 β sv v} (h : Rel r β sv v) (hp : sv.plainI1 = true) : Rel r2 β sv v := by
  by_cases hx : ∃ l, sv = .agg l
  · obtain ⟨l, rfl⟩ := hx
    obtain ⟨cs, rfl, hl⟩ := h.aggL_inv
    exact .aggL ⟨hl.1, fun i sv v q1 q2 => plainI0_keep (hl.2 i sv v q1 q2) (plainI0L_get hp i sv q1)⟩
  · have : sv.plainI0 = true := by cases sv <;> first | exact hp | exact (hx ⟨_, rfl⟩).elim
    exact plainI0_keep h this
theorem plainI_keep {r r2 β sv v} (h : Rel r β sv v) (hp : sv.plainI = true) : Rel r2 β sv v := by
  by_cases hx : ∃ l, sv = .tup l
  · obtain ⟨l, rfl⟩ := hx
    obtain ⟨cs, rfl, hl⟩ := h.tupL_inv
    exact .tupL ⟨hl.1, fun i sv v q1 q2 => plainI1_keep (hl.2 i sv v q1 q2) (plainI1L_get hp i sv q1)⟩
  · have : sv.plainI1 = true := by cases sv <;> first | exact hp | exact (hx ⟨_, rfl⟩).elim
    exact plainI1_keep h this
theorem own_plain_sat {r r2 β w x} {τ : Ty} {l : List τ.T} (h : Chunk.Sat r β w x (.own τ l)) (hp : τ.plain = true) : Chunk.Sat r2 β w x (.own τ l) := by
  cases h with
  | own h =>
    refine .own ?_
    rcases h with ⟨a, h1, h2⟩ | ⟨b, off, cap, c, T, fr, he, hc0, hw, h0, h1, h2, h3, h4, h4', h5⟩
    · exact .inl ⟨a, h1, h2⟩
    · refine .inr ⟨b, off, cap, c, T, fr, he, hc0, hw, h0, h1, h2, h3, h4, h4', fun i row j sv v q1 q2 q3 => ?_⟩
      have hi : i < l.length := by have := lt_len q1; simpa using this
      have e : row = τ.enc l[i] := by
        rw [List.getElem?_map, List.getElem?_eq_getElem hi] at q1
        simpa using q1.symm
      exact plain0_rel (h5 i row j sv v q1 q2 q3) (tyPlain_enc τ _ hp j sv (by rw [← e]; exact q2)) _ _
end Go.Vc

namespace Go.Vc
set_option autoImplicit false
set_option linter.unusedVariables false
set_option linter.unusedSimpArgs false

/-- what is known behind a call -/
structure After (B : Base) (e : Entry) (N : Nat) (a : Act) (σ : Env) (K : EK) (v : Value) (w' : World) : Prop where
  ex : ∃ sv σ' Φ2 n' r2 β2, K sv σ' Φ2 n' ∧ Rel r2 β2 sv v ∧ Sat B e N r2 β2 σ' Φ2 a w' ∧ ∀ D, GdIn D σ → GdIn D σ'

/-- behind a call that was handed the chunks of m, and lent those of q -/
theorem afterK_sound {B : Base} {e N a w} {m : NN} {res : SV} {Φ' : Phi} {σ : Env} {Φ : Phi} {n : Nat} {K : EK} (h : afterK m res Φ' σ Φ n K) {r β} (s : Sat B e N r β σ Φ a w)
    {q : Nat → Bool} (hq : ∀ i, q i = true → hasFst m i = false) {Φc : Phi}
    (hc1 : ∀ j ch, Phi.get Φc j = some ch → ∃ i ch0, (i, j) ∈ m ∧ Phi.get Φ i = some ch0 ∧ RnC m ch0 ch) (hc2 : ∀ i j, (i, j) ∈ m → ∃ ch, Phi.get Φc j = some ch) :
    ∃ βc, Rn m β βc ∧ MemSat (frz q r β Φ w) βc Φc w ∧ ∀ {r' βc' w' v} {r2 : Mem}, MemSat r' βc' Φ' w' → (frz q r β Φ w).le r' → Hid (frz q r β Φ w) βc Φc w r' βc' Φ' w' →
      r.le r2 → r2.le r' → (∀ id ch b, q id = true → Phi.get Φ id = some ch → ch.kind = 0 → ch.blk (β id) = some b → r2 b = none) → Rel r2 βc' res v →
      (∀ j ch, Phi.get Φ' j = some ch → ch.Sat r2 βc' w' (βc' j)) → After B e N a σ K v w' := by
  unfold afterK at h
  obtain ⟨S, σ', Φ1, h, hS, hσ, hΦ1⟩ := staleMK_sound h
  obtain ⟨M0, h, hM0⟩ := swapK_sound h
  obtain ⟨P, M, n', hM, h, hP, hall⟩ := newMK_sound h
  cases hnd : (nodupFst M && nodupSnd M) with
  | false => rw [hnd] at h; exact h.elim
  | true =>
  rw [hnd] at h
  simp only [cond_true] at h
  simp only [Bool.and_eq_true] at hnd
  obtain ⟨hn1, hn2⟩ := hnd
  have hn1' : nodupFst M0 = true := nodupFst_app (hM ▸ hn1)
  have hn2' : nodupSnd M0 = true := nodupSnd_app (hM ▸ hn2)
  obtain ⟨res', h, hres⟩ := rn2_sound h
  obtain ⟨Φb, h, hb1, hb2⟩ := backPK_sound hn1 hn2 h
  obtain ⟨Φr, h, hr1⟩ := dropMK_sound h
  rw [appPK_eq] at h
  obtain ⟨βc, hβc⟩ : ∃ βc : Bind, βc = fun j => match lookF M0 j with | some i => β i | none => .nilIface := ⟨_, rfl⟩
  have hmem : ∀ {i j}, (i, j) ∈ m → βc j = β i := by
    intro i j hij
    have := lookF_of hn1' ((hM0 i j).2 hij)
    rw [hβc]; simp only [this]
  have uniq : ∀ {i j j'}, (i, j) ∈ m → (i, j') ∈ m → j = j' := by
    intro i j j' h1 h2
    have a1 := lookB_of hn2' ((hM0 i j).2 h1)
    have a2 := lookB_of hn2' ((hM0 i j').2 h2)
    rw [a1] at a2; cases a2; rfl
  have hrn : Rn m β βc := fun i j hij => hmem (lookF_mem hij)
  have hcB : ∀ j ch b, Phi.get Φc j = some ch → ch.blk (βc j) = some b → ∃ i ch0, (i, j) ∈ m ∧ Phi.get Φ i = some ch0 ∧ ch0.blk (β i) = some b := by
    intro j ch b h1 h2
    obtain ⟨i, ch0, g1, g2, g3⟩ := hc1 j ch h1
    rw [hmem g1, g3.blk] at h2
    exact ⟨i, ch0, g1, g2, h2⟩
  have notq : ∀ {i j}, (i, j) ∈ m → q i = false := by
    intro i j hij
    cases hqi : q i with
    | false => rfl
    | true =>
      have := hq i hqi
      rw [hasFst_iff.2 ⟨j, hij⟩] at this; cases this
  have frzn : ∀ {i j ch0 b}, (i, j) ∈ m → Phi.get Φ i = some ch0 → ch0.blk (β i) = some b → frz q r β Φ w b = none := by
    intro i j ch0 b h1 h2 h3
    rw [frz_not, s.mem.sep _ _ _ h2 h3]
    intro id ch q1 q2 _ q4
    have := s.mem.nod _ _ _ _ _ q2 h2 q4 h3
    subst this
    rw [notq h1] at q1; cases q1
  have mc : MemSat (frz q r β Φ w) βc Φc w := by
    refine ⟨frz_vis s.mem, fun j ch hj => ?_, fun j ch b hj hb => ?_, fun j j' ch ch' b hj hj' hb hb' => ?_⟩
    · obtain ⟨i, ch0, g1, g2, g3⟩ := hc1 j ch hj
      rw [hmem g1]
      exact g3.sat (frz_le s.mem) hrn (s.mem.chs _ _ g2) (fun _ _ => rfl)
    · obtain ⟨i, ch0, g1, g2, g3⟩ := hcB j ch b hj hb
      exact frzn g1 g2 g3
    · obtain ⟨i, ch0, g1, g2, g3⟩ := hcB j ch b hj hb
      obtain ⟨i', ch0', g1', g2', g3'⟩ := hcB j' ch' b hj' hb'
      have := s.mem.nod _ _ _ _ _ g2 g2' g3 g3'
      subst this
      exact uniq g1 g1'
  refine ⟨βc, hrn, mc, fun {r' βc' w' v r2} m' hle hid h1 h2 h3 hv hch => ?_⟩
  obtain ⟨β2, hβ2⟩ : ∃ β2 : Bind, β2 = fun i => match lookB M i with | some j => βc' j | none => β i := ⟨_, rfl⟩
  have F1 : ∀ {i j}, lookF M j = some i → β2 i = βc' j := by
    intro i j hij
    have := lookB_of hn2 (lookF_mem hij)
    rw [hβ2]; simp only [this]
  have inM : ∀ {i j}, (i, j) ∈ m → (j, i) ∈ M := by
    intro i j hij; rw [hM]; exact List.mem_append_right _ ((hM0 i j).2 hij)
  have F2 : ∀ {i j ch}, (i, j) ∈ m → Phi.get Φ i = some ch → ch.kind ≠ 0 → β2 i = β i ∧ ∃ ch', Phi.get Φ' j = some ch' ∧ ch'.kind = ch.kind := by
    intro i j ch hij hg hk
    obtain ⟨c, hc⟩ := hc2 i j hij
    obtain ⟨i', ch0, g1, g2, g3⟩ := hc1 j c hc
    have : i' = i := by
      have a1 := lookF_of hn1' ((hM0 i' j).2 g1)
      have a2 := lookF_of hn1' ((hM0 i j).2 hij)
      rw [a1] at a2; cases a2; rfl
    subst this
    rw [hg] at g2; cases g2
    obtain ⟨k1, ch', k2, k3⟩ := hid.keep j c hc (by rw [g3.kind]; exact hk)
    refine ⟨?_, ch', k2, k3.trans g3.kind⟩
    rw [F1 (lookF_of hn1 (inM hij)), k1, hmem hij]
  have mget : ∀ {i j}, (i, j) ∈ m → ∃ ch, Phi.get Φ i = some ch := by
    intro i j hij
    obtain ⟨c, hc⟩ := hc2 i j hij
    obtain ⟨i', ch0, g1, g2, g3⟩ := hc1 j c hc
    have : i' = i := by
      have a1 := lookF_of hn1' ((hM0 i' j).2 g1)
      have a2 := lookF_of hn1' ((hM0 i j).2 hij)
      rw [a1] at a2; cases a2; rfl
    subst this
    exact ⟨ch0, g2⟩
  have F4 : ∀ {sv v}, NoneOf (S ++ P.map (·.2)) sv → Rel r β sv v → Rel r2 β2 sv v := by
    intro sv v hn hr
    refine (hr.bind (p := fun k => !memN k (S ++ P.map (·.2))) (fun k hk => ?_) hn.ok).mono h1
    simp only [Bool.not_eq_true'] at hk
    have hk' : k ∉ S ++ P.map (·.2) := fun hm => by rw [memN_iff.2 hm] at hk; cases hk
    rw [List.mem_append, not_or] at hk'
    cases hl : lookB M k with
    | none => rw [hβ2]; simp only [hl]
    | some j =>
      have hmM := lookB_mem hl
      rw [hM, List.mem_append] at hmM
      rcases hmM with hmM | hmM
      · exact absurd (List.mem_map.2 ⟨(j, k), hmM, rfl⟩) hk'.2
      · have hkm := (hM0 k j).1 hmM
        obtain ⟨ch, hg⟩ := mget hkm
        refine (F2 hkm hg fun h0 => ?_).1
        cases ch with
        | own τ l => exact hk'.1 (hS k j τ l hkm hg)
        | _ => cases h0
  obtain ⟨g1, g2, g3⟩ := back (I := fun i => ∃ j, (i, j) ∈ m) s.mem (fun j ch b p1 p2 => by
    obtain ⟨i, ch0, q1, q2, q3⟩ := hcB j ch b p1 p2
    exact ⟨i, ch0, ⟨j, q1⟩, q2, q3⟩) (fun i ⟨j, hj⟩ => notq hj) hle m' hid r2 h2 h3
  have get : ∀ i ch, Phi.get (Φb ++ Φr) i = some ch → (∃ j ch', lookF M j = some i ∧ Phi.get Φ' j = some ch' ∧ RnC M ch' ch ∧ β2 i = βc' j) ∨
      (¬ (∃ j, (i, j) ∈ m) ∧ β2 i = β i ∧ Phi.get Φ1 i = some ch ∧ ∃ c, Phi.get Φ i = some c ∧ StS S c ch) := by
    intro i ch hi
    rw [phi_app] at hi
    cases hq : Phi.get Φb i with
    | some c =>
      rw [hq] at hi; cases hi
      obtain ⟨j, ch', q1, q2, q3⟩ := hb1 i ch hq
      exact .inl ⟨j, ch', q1, q2, q3, F1 q1⟩
    | none =>
      rw [hq] at hi
      simp only [hr1] at hi
      cases hf : hasFst m i with
      | true => rw [hf] at hi; cases hi
      | false =>
        rw [hf] at hi
        have hnm : ¬ ∃ j, (i, j) ∈ m := fun hj => by rw [hasFst_iff.2 hj] at hf; cases hf
        refine .inr ⟨hnm, ?_, hi, (hΦ1 i).1 ch hi⟩
        cases hl : lookB M i with
        | none => rw [hβ2]; simp only [hl]
        | some j =>
          exfalso
          have hmM := lookB_mem hl
          rw [hM, List.mem_append] at hmM
          rcases hmM with hmM | hmM
          · exact (freshP_get (hP j i hmM).2 i ch hi).1 rfl
          · exact hnm ⟨j, (hM0 i j).1 hmM⟩
  have hrnM : Rn M βc' β2 := fun j i hji => F1 hji
  refine ⟨res', σ', Φb ++ Φr, n', r2, β2, h, hres _ _ _ _ hrnM hv, ?_, fun D hD k s0 w0 sv0 hk0 => ?_⟩
  · refine s.step (s.agree.of fun k g sv' hk => ?_) ?_ h1 ?_
    · obtain ⟨sv, q1, q2⟩ := hσ k g sv' hk
      refine ⟨sv, q1, fun v hr => ?_⟩
      rcases q2 with rfl | ⟨rfl, q2⟩
      · exact .und
      · refine F4 (fun i hi => ?_) hr
        rw [List.mem_append] at hi
        rcases hi with hi | hi
        · exact q2 i hi
        · obtain ⟨⟨j, i'⟩, hji, rfl⟩ := List.mem_map.1 hi
          exact freshE_get (hP j i' hji).1 k g sv' hk
    · refine ⟨g2, fun i ch hi => ?_, fun i ch b hi hb => ?_, fun i i' ch ch' b hi hi' hb hb' => ?_⟩
      · rcases get i ch hi with ⟨j, ch', q1, q2, q3, q4⟩ | ⟨hnm, q1, q2, c, q3, q4⟩
        · rw [q4]
          exact q3.sat (Mem.le_refl r2) hrnM (hch j ch' q2) (fun _ _ => rfl)
        · rw [q1]
          have hs := s.mem.chs _ _ q3
          have hkeep : ∀ b, c.blk (β i) = some b → w'.heap[b]? = w.heap[b]? := fun b hb => (g1 i c b hnm q3 hb).1
          cases q4 with
          | same hnb => exact hs.keep h1 hkeep (fun cells he => (hnb cells he).elim)
          | box hl hh =>
            cases hs with
            | box hx hw hlc hcc =>
              rename_i cs cs' bb cc T
              refine .box hx (by rw [hkeep _ (by rw [hx]; rfl)]; exact hw) (by rw [hlc, hl]) fun k sv v p1 p2 => ?_
              obtain ⟨sv0, a1, a2⟩ := hh k sv p1
              rcases a2 with rfl | ⟨rfl, a2⟩
              · exact .und
              · refine F4 (fun i0 hi0 => ?_) (hcc k sv v a1 p2)
                rw [List.mem_append] at hi0
                rcases hi0 with hi0 | hi0
                · exact a2 i0 hi0
                · obtain ⟨⟨j, i'⟩, hji, rfl⟩ := List.mem_map.1 hi0
                  have := (freshP_get (hP j i' hji).2 i _ q2).2
                  exact SV.okIdsL_get this k sv p1
      · rcases get i ch hi with ⟨j, ch', q1, q2, q3, q4⟩ | ⟨hnm, q1, q2, c, q3, q4⟩
        · rw [q4, q3.blk] at hb
          have := m'.sep _ _ _ q2 hb
          cases hq : r2 b with
          | none => rfl
          | some o => rw [h2 b o hq] at this; cases this
        · rw [q1, q4.blk] at hb
          exact (g1 i c b hnm q3 hb).2.1
      · rcases get i ch hi with ⟨j, cj, q1, q2, q3, q4⟩ | ⟨hnm, q1, q2, c, q3, q4⟩ <;> rcases get i' ch' hi' with ⟨j', cj', q1', q2', q3', q4'⟩ | ⟨hnm', q1', q2', c', q3', q4'⟩
        · rw [q4, q3.blk] at hb
          rw [q4', q3'.blk] at hb'
          have := m'.nod _ _ _ _ _ q2 q2' hb hb'
          subst this
          rw [q1] at q1'; cases q1'; rfl
        · rw [q4, q3.blk] at hb
          rw [q1', q4'.blk] at hb'
          exact ((g1 i' c' b hnm' q3' hb').2.2 j cj q2 hb).elim
        · rw [q1, q4.blk] at hb
          rw [q4', q3'.blk] at hb'
          exact ((g1 i c b hnm q3 hb).2.2 j' cj' q2' hb').elim
        · rw [q1, q4.blk] at hb
          rw [q1', q4'.blk] at hb'
          exact s.mem.nod _ _ _ _ _ q3 q3' hb hb'
    · refine ⟨hid.os, hid.tape, hid.output, hid.size, fun b hb p1 p2 => ?_, fun i ch hi hk => ?_⟩
      · obtain ⟨a1, a2, a3⟩ := g3 b hb p1 p2
        refine ⟨a1, a2, fun i ch hi hcb => ?_⟩
        rcases get i ch hi with ⟨j, ch', q1, q2, q3, q4⟩ | ⟨hnm, q1, q2, c, q3, q4⟩
        · rw [q4, q3.blk] at hcb
          exact a3 j ch' q2 hcb
        · rw [q1, q4.blk] at hcb
          exact p2 i c q3 hcb
      · cases hf : hasFst m i with
        | true =>
          obtain ⟨j, hij⟩ := hasFst_iff.1 hf
          obtain ⟨k1, ch', k2, k3⟩ := F2 hij hi hk
          obtain ⟨i', ch2, q1, q2, q3⟩ := hb2 j ch' k2
          have : i' = i := by
            have := lookF_of hn1 (inM hij)
            rw [this] at q1; cases q1; rfl
          subst this
          exact ⟨k1, ch2, by rw [phi_app, q2], q3.kind.trans k3⟩
        | false =>
          have hnm : ¬ ∃ j, (i, j) ∈ m := fun hj => by rw [hasFst_iff.2 hj] at hf; cases hf
          obtain ⟨c1, hc1'⟩ := (hΦ1 i).2 ch hi
          obtain ⟨c0, p1, p2⟩ := (hΦ1 i).1 c1 hc1'
          rw [hi] at p1; cases p1
          have hnl : lookB M i = none := by
            cases hl : lookB M i with
            | none => rfl
            | some j =>
              exfalso
              have hmM := lookB_mem hl
              rw [hM, List.mem_append] at hmM
              rcases hmM with hmM | hmM
              · exact (freshP_get (hP j i hmM).2 i c1 hc1').1 rfl
              · exact hnm ⟨j, (hM0 i j).1 hmM⟩
          have hnb : Phi.get Φb i = none := by
            cases hq : Phi.get Φb i with
            | none => rfl
            | some c =>
              obtain ⟨j, ch', q1, _, _⟩ := hb1 i c hq
              have := lookB_of hn2 (lookF_mem q1)
              rw [hnl] at this; cases this
          refine ⟨by rw [hβ2]; simp only [hnl], c1, ?_, p2.kind⟩
          rw [phi_app, hnb]
          simp only [hr1, hf, cond_false]
          exact hc1'
  · obtain ⟨sv1, q1, _⟩ := hσ k _ _ hk0
    exact hD _ _ _ _ q1
end Go.Vc

namespace Go.Vc
set_option autoImplicit false
set_option linter.unusedVariables false
set_option linter.unusedSimpArgs false

theorem mem_own0L {id : Nat} {l : List SV} {r : List Nat} : id ∈ own0L l r ↔ (SV.own id ∈ l ∨ id ∈ r) := by
  induction l with
  | nil => simp [own0L]
  | cons x xs ih =>
    simp only [own0L, List.mem_cons]
    by_cases hx : ∃ i, x = .own i
    · obtain ⟨i, rfl⟩ := hx
      simp only [own0, List.mem_cons, ih, SV.own.injEq]
      constructor
      · rintro (h | h | h)
        · exact .inl (.inl h)
        · exact .inl (.inr h)
        · exact .inr h
      · rintro ((h | h) | h)
        · exact .inl h
        · exact .inr (.inl h)
        · exact .inr (.inr h)
    · have e : own0 x (own0L xs r) = own0L xs r := by cases x <;> first | rfl | exact (hx ⟨_, rfl⟩).elim
      rw [e, ih]
      constructor
      · rintro (h | h)
        · exact .inl (.inr h)
        · exact .inr h
      · rintro ((h | h) | h)
        · exact (hx ⟨id, h.symm⟩).elim
        · exact .inl h
        · exact .inr h
theorem own1L_cons {id : Nat} {x : SV} {xs : List SV} : (id ∈ own1L xs → id ∈ own1L (x :: xs)) ∧ (x = .own id → id ∈ own1L (x :: xs)) ∧ (∀ l, x = .agg l → SV.own id ∈ l → id ∈ own1L (x :: xs)) := by
  by_cases hx : ∃ l, x = .agg l
  · obtain ⟨l, rfl⟩ := hx
    refine ⟨fun h => mem_own0L.2 (.inr h), (fun h => by cases h), fun l' h hm => ?_⟩
    cases h; exact mem_own0L.2 (.inl hm)
  · have e : own1L (x :: xs) = own0 x (own1L xs) := by cases x <;> first | rfl | exact (hx ⟨_, rfl⟩).elim
    rw [e]
    refine ⟨fun h => ?_, fun h => by subst h; simp [own0], fun l h => (hx ⟨l, h⟩).elim⟩
    cases x <;> first | exact h | (simp [own0, h])

theorem ln0_q {Φ : Phi} {x : SV} {K : SV → Prop} (h : ln0 Φ x K) : ∃ y, K y ∧ ∀ q r β w v, (∀ id, x = .own id → q id = true) → MemSat r β Φ w → Rel r β x v → Rel (frz q r β Φ w) β y v := by
  by_cases hx : ∃ id, x = .own id
  · obtain ⟨id, rfl⟩ := hx
    simp only [ln0] at h
    split at h
    · rename_i τ l hg
      refine ⟨_, h, fun q r β w v hq m hr => ?_⟩
      cases hr
      exact own_frz m (hq id rfl) hg β
    · exact h.elim
  · have h' : K x := by cases x <;> first | exact h | exact (hx ⟨_, rfl⟩).elim
    exact ⟨x, h', fun q r β w v _ m hr => hr.mono (frz_le m)⟩
theorem lendK_q {Φ : Phi} : ∀ {xs : List SV} {K : List SV → Prop}, lendK Φ xs K → ∃ ys, K ys ∧ ∀ q r β w vs, (∀ id ∈ own1L xs, q id = true) → MemSat r β Φ w → RelL r β xs vs → RelL (frz q r β Φ w) β ys vs := by
  intro xs
  induction xs with
  | nil => intro K h; exact ⟨[], h, fun q r β w vs _ m hv => by rw [hv.nil_inv]; exact .nil⟩
  | cons x xs ih =>
    intro K h
    have h : ln1 Φ x fun y => lendK Φ xs fun l => K (y :: l) := h
    have one : ∃ y, (lendK Φ xs fun l => K (y :: l)) ∧ ∀ q r β w v, (∀ id ∈ own1L (x :: xs), q id = true) → MemSat r β Φ w → Rel r β x v → Rel (frz q r β Φ w) β y v := by
      by_cases hx : ∃ l, x = .agg l
      · obtain ⟨l, rfl⟩ := hx
        obtain ⟨ys, hk, hl, hh⟩ := lift_list (D := ln0 Φ) (DL := ln0L Φ) (R := fun x y => ∀ q r β w v, (∀ id, x = .own id → q id = true) → MemSat r β Φ w → Rel r β x v → Rel (frz q r β Φ w) β y v) (fun _ h => h) (fun _ _ _ h => h) (fun _ _ h => ln0_q h) l _ h
        refine ⟨_, hk, fun q r β w v hq m hv => ?_⟩
        obtain ⟨cs, rfl, hcs⟩ := hv.aggL_inv
        refine .aggL ⟨by rw [hcs.1, hl], fun i y v q1 q2 => ?_⟩
        obtain ⟨x0, p1, p2⟩ := hh i y q1
        exact p2 q r β w v (fun id he => hq id (own1L_cons.2.2 l rfl (by rw [← he]; exact List.mem_of_getElem? p1))) m (hcs.2 i x0 v p1 q2)
      · have h' : ln0 Φ x fun y => lendK Φ xs fun l => K (y :: l) := by cases x <;> first | exact h | exact (hx ⟨_, rfl⟩).elim
        obtain ⟨y, hk, hr⟩ := ln0_q h'
        exact ⟨y, hk, fun q r β w v hq m hv => hr q r β w v (fun id he => hq id (own1L_cons.2.1 he)) m hv⟩
    obtain ⟨y, h, hy⟩ := one
    obtain ⟨ys, hk, hys⟩ := ih h
    refine ⟨_, hk, fun q r β w vs hq m hv => ?_⟩
    obtain ⟨v, us, rfl, hv1, hv2⟩ := hv.uncons
    exact RelL.cons (hy q r β w v hq m hv1) (hys q r β w us (fun id hi => hq id (own1L_cons.1 hi)) m hv2)

theorem lentOk_spec {m : NN} {l : List Nat} (h : lentOk m l = true) : ∀ i, memN i l = true → hasFst m i = false := by
  induction l with
  | nil => intro i hi; cases hi
  | cons x r ih =>
    simp only [lentOk, Bool.and_eq_true, Bool.not_eq_true'] at h
    intro i hi
    simp only [memN, Bool.or_eq_true] at hi
    rcases hi with hi | hi
    · rw [← beq_of hi]; exact h.1
    · exact ih h.2 i hi

theorem callMK_sound {B : Base} {e N a w f args lent σ Φ n} {K : EK} (h : callMK B f args lent σ Φ n K) {r β} (s : Sat B e N r β σ Φ a w) {vs : List Value}
    (hargs : RelL (frz (fun i => memN i lent) r β Φ w) β args vs) :
    (∀ w, (callFunc f vs.toArray).run B.P w = .ok (.enter f vs.toArray) w) ∧ Calls B.P f vs.toArray w fun ev w' => ∃ v, ev = .returned v ∧ After B e N a σ K v w' := by
  obtain ⟨m, h⟩ := reachK_sound h
  obtain ⟨cargs, h, hl, hh⟩ := rn1L_sound h
  obtain ⟨Φc, h, hc1, hc2⟩ := subPK_sound h
  cases h with
  | mk hlt hp k =>
    rename_i pre res Φ' fn
    simp only [Bool.and_eq_true] at hlt
    obtain ⟨hlt, hpl⟩ := hlt
    obtain ⟨βc, hrn, mc, fin⟩ := afterK_sound k s (lentOk_spec hlt) hc1 hc2
    refine ⟨fun w => fn.call _ w, ?_⟩
    refine (fn.ok hp.h _ βc w vs (B.mono _ _ (frz_le s.mem) s.G) mc (relL_of hl hh (fun x y v hR hx => hR _ _ _ _ hrn hx) hargs)).mono ?_
    rintro ev w' ⟨v, sv, r', βc', Φ1, he, ⟨rfl, rfl⟩, hr, m', hle, hid⟩
    refine ⟨v, he, ?_⟩
    cases lent with
    | nil =>
      have hz : frz (fun i => memN i []) r β Φ w = r := frz_none
      exact fin m' hle hid (by rw [hz] at hle; exact hle) (Mem.le_refl r') (fun _ _ _ h => by cases h) hr (fun j ch hj => m'.chs _ _ hj)
    | cons x l =>
      have hpl : (SV.plainI sv && plainP Φ1) = true := hpl
      simp only [Bool.and_eq_true] at hpl
      refine fin (r2 := fun b => if b < w.heap.size then r b else r' b) m' hle hid (fun b o hb => ?_) (fun b o hb => ?_) (fun id ch b _ p1 _ p3 => ?_) (plainI_keep hr hpl.1) (fun j ch hj => ?_)
      · have := lt_of_get (s.mem.vis _ _ hb)
        simp only [this, if_true]; exact hb
      · simp only at hb
        split at hb
        · exact hle _ _ (frz_le s.mem _ _ hb)
        · exact hb
      · simp only [blk_lt s.mem p1 p3, if_true]
        exact s.mem.sep _ _ _ p1 p3
      · obtain ⟨τ, l, rfl, hτ⟩ := plainP_get hpl.2 hj
        exact own_plain_sat (m'.chs _ _ hj) hτ

/-- the same rows, lent or not -/
inductive RoEq : Chunk → Chunk → Prop
  | same (c) : RoEq c c
  | lend (τ) (l : List (Ty.T τ)) : RoEq (.own τ l) (.ro τ l)
  | back (τ) (l : List (Ty.T τ)) : RoEq (.ro τ l) (.own τ l)
theorem RoEq.blk {c c' : Chunk} (h : RoEq c c') (x : Value) : c'.blk x = c.blk x := by
  cases h with
  | same => rfl
  | lend τ l => cases x <;> first | rfl | (rename_i a _ _; cases a <;> rfl)
  | back τ l => cases x <;> first | rfl | (rename_i a _ _; cases a <;> rfl)
theorem RoEq.sat {c c' : Chunk} (h : RoEq c c') {r β w x} (hs : c.Sat r β w x) : c'.Sat r β w x := by
  cases h with
  | same => exact hs
  | lend τ l => cases hs with | own h => exact .ro h
  | back τ l => cases hs with | ro h => exact .own h
theorem sat_swap {B : Base} {e N r β σ Φ Φ2 a w} (s : Sat B e N r β σ Φ a w) (hsw : ∀ j c2, Phi.get Φ2 j = some c2 → ∃ c, Phi.get Φ j = some c ∧ RoEq c c2)
    (hkeep : ∀ id ch, Phi.get e.Φ id = some ch → ch.kind ≠ 0 → Phi.get Φ2 id = Phi.get Φ id) : Sat B e N r β σ Φ2 a w := by
  refine ⟨s.agree, ⟨s.mem.vis, fun j c2 h => ?_, fun j c2 b h hb => ?_, fun j j' c2 c2' b h h' hb hb' => ?_⟩, s.G, s.le, ⟨s.hid.os, s.hid.tape, s.hid.output, s.hid.size, fun b hb h1 h2 => ?_, fun id ch h hk => ?_⟩, ?_, s.size⟩
  · obtain ⟨c, h1, h2⟩ := hsw j c2 h
    exact h2.sat (s.mem.chs _ _ h1)
  · obtain ⟨c, h1, h2⟩ := hsw j c2 h
    rw [h2.blk] at hb
    exact s.mem.sep _ _ _ h1 hb
  · obtain ⟨c, h1, h2⟩ := hsw j c2 h
    obtain ⟨c', h1', h2'⟩ := hsw j' c2' h'
    rw [h2.blk] at hb; rw [h2'.blk] at hb'
    exact s.mem.nod _ _ _ _ _ h1 h1' hb hb'
  · obtain ⟨x1, x2, x3⟩ := s.hid.block b hb h1 h2
    refine ⟨x1, x2, fun j c2 h hb' => ?_⟩
    obtain ⟨c, g1, g2⟩ := hsw j c2 h
    rw [g2.blk] at hb'
    exact x3 j c g1 hb'
  · obtain ⟨q1, ch', q2, q3⟩ := s.hid.keep id ch h hk
    exact ⟨q1, ch', by rw [hkeep id ch h hk]; exact q2, q3⟩
  · obtain ⟨Ds, h1, h2, h3⟩ := s.defers
    refine ⟨Ds, h1, h2, fun D hD => ?_⟩
    obtain ⟨g1, g2, g3, g4⟩ := h3 D hD
    refine ⟨g1, g2, g3, fun j c2 h hb => ?_⟩
    obtain ⟨c, k1, k2⟩ := hsw j c2 h
    rw [k2.blk] at hb
    exact g4 j c k1 hb
theorem roK_sound : ∀ {ids : List Nat} {Φ : Phi} {K : Phi → Prop}, roK ids Φ K → ∃ Φr, K Φr ∧ (∀ j c2, Phi.get Φr j = some c2 → ∃ c, Phi.get Φ j = some c ∧ RoEq c c2) ∧ (∀ j, j ∉ ids → Phi.get Φr j = Phi.get Φ j) ∧ (∀ j ∈ ids, ∃ τ l, Phi.get Φ j = some (.own τ l) ∧ Phi.get Φr j = some (.ro τ l)) := by
  intro ids
  induction ids with
  | nil => intro Φ K h; exact ⟨Φ, h, fun j c2 hj => ⟨c2, hj, .same _⟩, fun _ _ => rfl, fun j hj => by cases hj⟩
  | cons i ids ih =>
    intro Φ K h
    simp only [roK] at h
    split at h
    · rename_i τ l hg
      obtain ⟨Φ1, h, hΦ⟩ := setPK_sound h (hasId_of hg)
      obtain ⟨Φr, hk, h1, h2, h3⟩ := ih h
      have hi1 : Phi.get Φ1 i = some (.ro τ l) := by rw [hΦ, Nat.beq_refl]; rfl
      have hni : i ∉ ids := fun hm => by
        obtain ⟨τ', l', g1, _⟩ := h3 i hm
        rw [hi1] at g1; cases g1
      have hne : ∀ j, j ≠ i → Phi.get Φ1 j = Phi.get Φ j := fun j hj => by rw [hΦ, nbeq_of (fun h => hj h.symm)]; rfl
      refine ⟨Φr, hk, fun j c2 hj => ?_, fun j hj => ?_, fun j hj => ?_⟩
      · by_cases hji : j = i
        · subst hji
          rw [h2 j hni, hi1] at hj
          cases hj
          exact ⟨_, hg, .lend τ l⟩
        · obtain ⟨c, g1, g2⟩ := h1 j c2 hj
          rw [hne j hji] at g1
          exact ⟨c, g1, g2⟩
      · simp only [List.mem_cons, not_or] at hj
        rw [h2 j hj.2, hne j hj.1]
      · by_cases hji : j = i
        · subst hji
          exact ⟨τ, l, hg, by rw [h2 j hni, hi1]⟩
        · rcases List.mem_cons.1 hj with h | hj
          · exact (hji h).elim
          · obtain ⟨τ', l', g1, g2⟩ := h3 j hj
            rw [hne j hji] at g1
            exact ⟨τ', l', g1, g2⟩
    · exact h.elim
    · exact h.elim
theorem unroK_sound : ∀ {ids : List Nat} {Φ : Phi} {K : Phi → Prop}, unroK ids Φ K → ∃ Φr, K Φr ∧ (∀ j c2, Phi.get Φr j = some c2 → ∃ c, Phi.get Φ j = some c ∧ RoEq c c2) ∧ (∀ j, j ∉ ids → Phi.get Φr j = Phi.get Φ j) := by
  intro ids
  induction ids with
  | nil => intro Φ K h; exact ⟨Φ, h, fun j c2 hj => ⟨c2, hj, .same _⟩, fun _ _ => rfl⟩
  | cons i ids ih =>
    intro Φ K h
    simp only [unroK] at h
    split at h
    · rename_i τ l hg
      obtain ⟨Φ1, h, hΦ⟩ := setPK_sound h (hasId_of hg)
      obtain ⟨Φr, hk, h1, h2⟩ := ih h
      have hi1 : Phi.get Φ1 i = some (.own τ l) := by rw [hΦ, Nat.beq_refl]; rfl
      have hne : ∀ j, j ≠ i → Phi.get Φ1 j = Phi.get Φ j := fun j hj => by rw [hΦ, nbeq_of (fun h => hj h.symm)]; rfl
      refine ⟨Φr, hk, fun j c2 hj => ?_, fun j hj => ?_⟩
      · obtain ⟨c, g1, g2⟩ := h1 j c2 hj
        by_cases hji : j = i
        · subst hji
          rw [hi1] at g1
          cases g1
          cases g2 with
          | same => exact ⟨_, hg, .back τ l⟩
          | lend => exact ⟨_, hg, .same _⟩
        · rw [hne j hji] at g1
          exact ⟨c, g1, g2⟩
      · simp only [List.mem_cons, not_or] at hj
        rw [h2 j hj.2, hne j hj.1]
    · exact h.elim
theorem callS_sound {B : Base} {e N a w f args σ Φ n} {K : EK} (h : CallS B f args σ Φ n K) {r β} (s : Sat B e N r β σ Φ a w) {vs : List Value} (hargs : RelL r β args vs) {o : Oper}
    (hrun : ∀ w, (execOp a.eval o).run B.P w = (callFunc f vs.toArray).run B.P w) : OpTo B.P a w o (After B e N a σ K) := by
  cases h with
  | q h =>
    obtain ⟨sv, hk, hop⟩ := call_sound h
    refine (hop (fun _ h => h) r β w vs a o s.G s.mem hargs hrun).mono ?_
    rintro v w' ⟨r', hr, hle, m', hid⟩
    exact ⟨sv, σ, Φ, n, r', β, hk, hr, s.step (s.agree.of fun k g sv hk => ⟨sv, hk, fun v hr => hr.mono hle⟩) m' hle hid, fun D hD => hD⟩
  | m h =>
    obtain ⟨ys, h, hl⟩ := lendK_q h
    obtain ⟨h1, h2⟩ := callMK_sound h s (hl _ r β w vs (fun id hi => memN_iff.2 hi) s.mem hargs)
    exact .call f vs.toArray (by rw [hrun]; exact h1 _) h2
  | h h =>
    obtain ⟨h1, h2⟩ := callMK_sound h s (by
      have hz : frz (fun i => memN i []) r β Φ w = r := frz_none
      rw [hz]; exact hargs)
    exact .call f vs.toArray (by rw [hrun]; exact h1 _) h2
  | b h =>
    obtain ⟨Φr, h, hr1, hr2, hr3⟩ := roK_sound h
    have hno : ∀ id ch, Phi.get e.Φ id = some ch → ch.kind ≠ 0 → id ∉ own1L args := fun id ch hi hk hm => by
      obtain ⟨τ, l, g1, _⟩ := hr3 id hm
      obtain ⟨_, ch', q2, q3⟩ := s.hid.keep id ch hi hk
      rw [g1] at q2; cases q2
      exact hk q3.symm
    have s1 := sat_swap s hr1 (fun id ch hi hk => hr2 id (hno id ch hi hk))
    obtain ⟨h1, h2⟩ := callMK_sound h s1 (by
      have hz : frz (fun i => memN i []) r β Φr w = r := frz_none
      rw [hz]; exact hargs)
    refine .call f vs.toArray (by rw [hrun]; exact h1 _) (h2.mono ?_)
    rintro ev w' ⟨v, he, sv, σ2, Φ2, n', r2, β2, k1, k2, k3, k4⟩
    obtain ⟨Φu, k1, u1, u2⟩ := unroK_sound k1
    exact ⟨v, he, sv, σ2, Φu, n', r2, β2, k1, k2, sat_swap k3 u1 (fun id ch hi hk => u2 id (hno id ch hi hk)), k4⟩
  | z h =>
    obtain ⟨xs', σ', Φ', r', h, s', hv', hD⟩ := frzK_sound h s hargs
    obtain ⟨h1, h2⟩ := callMK_sound h s' (by
      have hz : frz (fun i => memN i []) r' β Φ' w = r' := frz_none
      rw [hz]; exact hv')
    refine .call f vs.toArray (by rw [hrun]; exact h1 _) (h2.mono ?_)
    rintro ev w' ⟨v, he, sv, σ2, Φ2, n', r2, β2, k1, k2, k3, k4⟩
    exact ⟨v, he, sv, σ2, Φ2, n', r2, β2, k1, k2, k3, fun D h0 => k4 D (hD D h0)⟩
end Go.Vc

namespace Go.Vc
set_option autoImplicit false
set_option linter.unusedVariables false

theorem run_equal_nil {P : Program} {t e : TypeId} (hu : P.underlying t = some (.slice e)) (x : Option Addr) (n c : Nat) (w : World) : (Op.equal t (.slice x n c) (.slice none 0 0)).run P w = .ok x.isNone w := by
  unfold Op.equal Op.maxDepth
  rw [show (10000 : Nat) = 9999 + 1 from rfl, Op.equalIn]
  simp only [Sem.run_bind, run_underlying hu, Result.andThen_ok]
  cases x <;> rfl
theorem rows_slice {r w x bt sz rows} (h : RowsAt r w x bt sz rows) : ∃ a n c, x = .slice a n c ∧ (a = none → rows = []) := by
  rcases h with ⟨a, rfl, rfl⟩ | ⟨b, off, cap, c, T, fr, rfl, _⟩
  · exact ⟨a, 0, 0, rfl, fun _ => rfl⟩
  · exact ⟨_, _, _, rfl, fun h => by cases h⟩
theorem lits_slice {r β sz rows x} (h : Rel r β (.lits sz rows) x) : ∃ a n c, x = .slice a n c ∧ (a = none → rows = []) := by
  cases h with
  | litsE => exact ⟨_, _, _, rfl, fun _ => rfl⟩
  | lits => exact ⟨_, _, _, rfl, fun h => by cases h⟩
theorem nilK_sound {P : Program} {Φ t x} {K : Bool → Prop} (h : nilK P Φ t x K) {r β w v} (m : MemSat r β Φ w) (hx : Rel r β x v) :
    ∃ b, K b ∧ (Op.equal t v (.slice none 0 0)).run P w = .ok b w ∧ ∃ a n c, v = .slice a n c := by
  unfold nilK at h
  split at h
  · rename_i e hu
    split at h
    · cases hx
      exact ⟨true, h, run_equal_nil hu none 0 0 w, _, _, _, rfl⟩
    · cases hx with
      | rd hx =>
        obtain ⟨a, n, c, rfl, ha⟩ := lits_slice hx
        exact ⟨a.isNone, h _ (fun hb => by
          have := ha (by simpa using hb)
          simpa using this), run_equal_nil hu a n c w, _, _, _, rfl⟩
    · split at h
      · rename_i id τ l hg
        have hs := m.rowsR hg
        cases hs with
        | own hrows =>
          obtain ⟨a, n, c, hv, ha⟩ := rows_slice hrows
          cases hx
          rw [hv]
          exact ⟨a.isNone, h _ (fun hb => by
            have := ha (by simpa using hb)
            simpa using this), run_equal_nil hu a n c w, _, _, _, rfl⟩
      · exact h.elim
    · exact h.elim
  · exact h.elim

theorem guard_slice {P : Program} {op : BinOp} {t : TypeId} {x y : Operand} {a a' : Option Addr} {n c n' c' : Nat} {w : World} : (eqGuard op t x y (.slice a n c) (.slice a' n' c')).run P w = .ok () w := by
  unfold eqGuard; split <;> rfl
theorem storeFK_sound {B : Base} {e N r β σ Φ a w n t} {p x : SV} {vp vx : Value} {K : EK} (h : storeFK B.P t p x σ Φ n K) (s : Sat B e N r β σ Φ a w) (hp : Rel r β p vp) (hx : Rel r β x vx) :
    ∃ sv σ' Φ' r' w', K sv σ' Φ' n ∧ (Instr.storeAt t vp vx).run B.P w = .ok () w' ∧ sv = .und ∧ Sat B e N r' β σ' Φ' a w' ∧ (∀ D, GdIn D σ → GdIn D σ') := by
  unfold storeFK at h
  split at h
  · obtain ⟨xs', σ', Φ', r', h, s', hv, hD⟩ := frzK_sound h s (vs := [vp, vx]) (RelL.cons hp (RelL.cons hx ⟨rfl, fun i sv v h => by simp at h⟩))
    split at h
    · rename_i p' x'
      obtain ⟨sv, Φ2, w', hk, hrun, he, s2⟩ := storeK_sound h s' (hv.2 0 _ _ rfl rfl) (hv.2 1 _ _ rfl rfl)
      exact ⟨sv, _, _, _, _, hk, hrun, he, s2, hD⟩
    · exact h.elim
  · obtain ⟨sv, Φ2, w', hk, hrun, he, s2⟩ := storeK_sound h s hp hx
    exact ⟨sv, _, _, _, _, hk, hrun, he, s2, fun _ h => h⟩
end Go.Vc

namespace Go.Vc
set_option autoImplicit false
set_option linter.unusedVariables false
set_option linter.unusedSimpArgs false

theorem makeMapK_sound {B : Base} {e N r β σ Φ a w n t} {K : EK} (h : makeMapK B t σ Φ n K) (st : Sat B e N r β σ Φ a w) :
    ∃ sv Φ' n' v w' β', K sv σ Φ' n' ∧ (∀ rv, (rv = none ∨ ∃ k i, rv = some (Value.int k i)) → (Instr.makeMap t rv).run B.P w = .ok v w') ∧ Rel r β' sv v ∧ Sat B e N r β' σ Φ' a w' := by
  unfold makeMapK at h
  split at h
  · rename_i kt el hu
    split at h
    · rename_i τ hty
      have key : ∃ κ, newChK n (.mp κ τ []) (.mref n) σ Φ K := by
        unfold keyTyOf at h
        split at h
        · exact ⟨_, h⟩
        · exact ⟨_, h⟩
        · exact h.elim
      obtain ⟨κ, h⟩ := key
      obtain ⟨sv, σ', Φ', n', hk, rfl, β', hr, hs⟩ := newChK_sound h st (Grows.alloc w (.map #[] 0)) (v := .map (some w.heap.size))
        (fun b hb => by simp [Chunk.blk] at hb; omega)
        (.mp rfl heap_alloc_eq rfl (fun i k v e q => by simp at q) (fun i k v e q => by simp at q) (fun i e q => by simp at q) (by simp)) (.mref (setB_self _ _ _))
      refine ⟨sv, Φ', n', _, _, β', hk, fun rv hrv => ?_, hr, hs⟩
      rcases hrv with rfl | ⟨k, i, rfl⟩
      · simp [Instr.makeMap]
      · simp [Instr.makeMap, run_underlying hu, asInt, asIntOf]
    · exact h.elim
  · exact h.elim

theorem mapSetK_sound {B : Base} {e N r β σ Φ a w n t} {m k x : SV} {vm vk vx : Value} {K : EK} (h : mapSetK B t m k x σ Φ n K) (s : Sat B e N r β σ Φ a w) (hm : Rel r β m vm) (hk : Rel r β k vk) (hx : Rel r β x vx) :
    ∃ sv Φ' w', K sv σ Φ' n ∧ (Instr.mapUpdate t vm vk vx).run B.P w = .ok () w' ∧ sv = .und ∧ Sat B e N r β σ Φ' a w' := by
  unfold mapSetK at h
  split at h
  · rename_i kt el id hu
    split at h
    · rename_i κ τ l hg
      cases hko : (keyTyOk B.P kt κ && x.one) with
      | false => rw [hko] at h; exact h.elim
      | true =>
        rw [hko] at h
        simp only [Bool.and_eq_true] at hko
        obtain ⟨d, hud, hd⟩ := keyTyOk_spec hko.1
        obtain ⟨key, h, hkey⟩ := decKeyK_sound h
        obtain ⟨av, h, hent⟩ := dec1K_sound h
        obtain ⟨Φ', hK, hΦ⟩ := setPK_sound h (hasId_of hg)
        obtain rfl := hkey _ _ _ hk
        cases hm with
        | mref hβ =>
        rename_i b
        have hs := s.mem.chs _ _ hg
        cases hs with
        | mp hxb hw hl hks hvs hb hn =>
        rename_i b' es clock
        rw [hβ] at hxb
        obtain rfl : b = b' := by simpa using hxb
        have hlt := lt_of_heap hw
        obtain ⟨sv1, henc⟩ : ∃ sv1, τ.enc av = [sv1] := by
          have := hent.1
          exact List.length_eq_one_iff.1 (by rw [this]; rfl)
        rw [henc] at hent
        have hnew : ∃ sv, τ.enc av = [sv] ∧ sv.one = true ∧ Rel r β0 sv vx :=
          ⟨sv1, henc, enc_one τ av 0 sv1 (by rw [henc]; rfl), ((hent.2 0 x sv1 rfl rfl).1 _ _ _ hx).pure (enc_pure τ av 0 sv1 (by rw [henc]; rfl)) _⟩
        have hT : ∀ o, Turns w { w with heap := w.heap.setIfInBounds b o } b := fun o => ⟨rfl, rfl, rfl, by simp, fun b' hb' => by
          show (w.heap.setIfInBounds b o)[b']? = _
          rw [Array.getElem?_setIfInBounds_ne (Ne.symm hb')]⟩
        have hat : ∀ o, ({ w with heap := w.heap.setIfInBounds b o } : World).heap[b]? = some o := fun o => by
          show (w.heap.setIfInBounds b o)[b]? = _
          rw [Array.getElem?_setIfInBounds_self_of_lt hlt]
        rcases find_sound hd key l es.toList 0 (by simpa using hl) (fun i k' v e q1 q2 => hks i k' v e q1 (by simpa using q2)) with ⟨a1, a2, a3⟩ | ⟨j, v, e1, a1, a2, a3, a4, a5⟩
        · rw [a3] at hΦ
          refine ⟨_, Φ', { w with heap := w.heap.setIfInBounds b (.map (es.push { key := κ.val key, val := vx, born := clock }) (clock + 1)) }, hK, ?_, rfl,
            sat_upd s hg hΦ (hT _) (by rw [hβ]; rfl) (by rw [hβ]; rfl) ?_ rfl⟩
          · simp only [Instr.mapUpdate, Sem.run_bind, run_underlying hu, Result.andThen_ok, MapKept.run_getObj_map hw, run_checkKey hud hd, run_findKey hud a2, MapKept.run_setObj_map _ hw]
          · refine .mp hβ (hat _) (by simp [hl]) (fun i k v e q1 q2 => ?_) (fun i k v e q1 q2 => ?_) (fun i e q => ?_) ?_
            · rw [Array.getElem?_push] at q2
              rw [List.getElem?_append] at q1
              by_cases hi : i < l.length
              · rw [if_pos hi] at q1; rw [if_neg (by omega)] at q2; exact hks i k v e q1 q2
              · rw [if_neg hi] at q1
                have hi2 : i - l.length = 0 := by have := lt_len q1; simp at this; omega
                rw [hi2] at q1
                rw [if_pos (by omega)] at q2
                simp at q1 q2
                rw [← q2, ← q1.1]
            · rw [Array.getElem?_push] at q2
              rw [List.getElem?_append] at q1
              by_cases hi : i < l.length
              · rw [if_pos hi] at q1; rw [if_neg (by omega)] at q2; exact hvs i k v e q1 q2
              · rw [if_neg hi] at q1
                have hi2 : i - l.length = 0 := by have := lt_len q1; simp at this; omega
                rw [hi2] at q1
                rw [if_pos (by omega)] at q2
                simp at q1 q2
                rw [← q2, ← q1.2]
                exact hnew
            · rw [Array.getElem?_push] at q
              split at q
              · simp at q; rw [← q]; exact Nat.lt_succ_self _
              · exact Nat.lt_succ_of_lt (hb i e q)
            · rw [Array.toList_push, List.pairwise_append]
              refine ⟨hn, by simp, fun x hx' y hy => ?_⟩
              simp at hy
              subst hy
              obtain ⟨i, hi, rfl⟩ := List.getElem_of_mem hx'
              have := hb i es[i] (by simp)
              simp
              simp at this hi ⊢
              omega
        · rw [a5] at hΦ
          refine ⟨_, Φ', { w with heap := w.heap.setIfInBounds b (.map (es.modify j fun e => { e with key := κ.val key, val := vx }) clock) }, hK, ?_, rfl,
            sat_upd s hg hΦ (hT _) (by rw [hβ]; rfl) (by rw [hβ]; rfl) ?_ rfl⟩
          · have a3' : es[j]? = some e1 := by simpa using a3
            have hkk : e1.key = κ.val key := hks j key v e1 a1 a3'
            simp only [Instr.mapUpdate, Sem.run_bind, run_underlying hu, Result.andThen_ok, MapKept.run_getObj_map hw, run_checkKey hud hd, run_findKey hud a4, Nat.zero_add, a3', Option.map_some, Option.getD_some, hkk, Instr.keyThatStays, sameBits_self hd, if_true, Sem.run_pure, MapKept.run_setObj_map _ hw]
          · have hmod : ∀ (i : Nat) e, (es.modify j fun e => { e with key := κ.val key, val := vx })[i]? = some e → ∃ e0, es[i]? = some e0 ∧ e.born = e0.born ∧ (i = j → e.key = κ.val key ∧ e.val = vx) ∧ (i ≠ j → e = e0) := by
              intro i e q
              rw [Array.getElem?_modify] at q
              by_cases hij : j = i
              · subst hij
                rw [if_pos rfl] at q
                cases he : es[j]? with
                | none => rw [he] at q; cases q
                | some e0 => rw [he] at q; simp at q; subst q; exact ⟨e0, rfl, rfl, fun _ => ⟨rfl, rfl⟩, fun h => (h rfl).elim⟩
              · rw [if_neg hij] at q
                exact ⟨e, q, rfl, fun h => (hij h.symm).elim, fun _ => rfl⟩
            have hset : ∀ (i : Nat) k v, (l.set j (key, av))[i]? = some (k, v) → (i = j ∧ k = key ∧ v = av) ∨ (i ≠ j ∧ l[i]? = some (k, v)) := by
              intro i k v q
              rw [List.getElem?_set] at q
              by_cases hij : j = i
              · subst hij
                rw [if_pos rfl] at q
                split at q
                · simp at q; exact .inl ⟨rfl, q.1.symm, q.2.symm⟩
                · cases q
              · rw [if_neg hij] at q; exact .inr ⟨fun h => hij h.symm, q⟩
            refine .mp hβ (hat _) (by simp [hl]) (fun i k v e q1 q2 => ?_) (fun i k v e q1 q2 => ?_) (fun i e q => ?_) ?_
            · obtain ⟨e0, p1, p2, p3, p4⟩ := hmod i e q2
              rcases hset i k v q1 with ⟨rfl, rfl, rfl⟩ | ⟨hij, q1⟩
              · exact (p3 rfl).1
              · rw [p4 hij]; exact hks i k v e0 q1 p1
            · obtain ⟨e0, p1, p2, p3, p4⟩ := hmod i e q2
              rcases hset i k v q1 with ⟨rfl, rfl, rfl⟩ | ⟨hij, q1⟩
              · rw [(p3 rfl).2]; exact hnew
              · rw [p4 hij]; exact hvs i k v e0 q1 p1
            · obtain ⟨e0, p1, p2, _⟩ := hmod i e q
              rw [p2]; exact hb i e0 p1
            · have hmap : (es.modify j fun e => { e with key := κ.val key, val := vx }).toList.map (·.born) = es.toList.map (·.born) := by
                apply List.ext_getElem?
                intro i
                simp only [List.getElem?_map, Array.getElem?_toList, Array.getElem?_modify]
                by_cases hij : j = i
                · subst hij; cases es[j]? <;> simp
                · rw [if_neg hij]
              have h1 : (es.toList.map (·.born)).Pairwise (· ≠ ·) := List.pairwise_map.2 hn
              rw [← hmap] at h1
              exact List.pairwise_map.1 h1
    · exact h.elim
  · exact h.elim

/-- bytes, as they lie -/
inductive BytesAt (w : World) (v : Value) (l : List UInt8) : Prop
  | nil (a : Option Addr) (cap : Nat) (hv : v = .slice a 0 cap) (hl : l = [])
  | row (b off cap : Nat) (c : Array Value) (T : TypeId) (fr : Nat × Nat) (hv : v = .slice (some ⟨b, off, none⟩) l.length cap) (hw : w.heap[b]? = some (.cells c T fr)) (hc : ∀ (j : Nat) x, l[j]? = some x → c[off + j]? = some (.int .u8 x.toNat))
theorem bytes_cells {r : Mem} {l : List UInt8} {c : Array Value} {off : Nat} (hlen : off + l.length ≤ c.size)
    (h : ∀ (i : Nat) (row : List SV) (j : Nat) (sv : SV) (v : Value), (l.map (Ty.enc .byte))[i]? = some row → row[j]? = some sv → c[off + i * 1 + j]? = some v → Rel r β0 sv v) :
    ∀ (j : Nat) x, l[j]? = some x → c[off + j]? = some (.int .u8 x.toNat) := by
  intro j x hj
  have hjl := lt_len hj
  have hin : off + j < c.size := by omega
  have hv : c[off + j * 1 + 0]? = some c[off + j] := by simp [hin]
  have := h j [.int .u8 x.toNat] 0 _ _ (by rw [List.getElem?_map, hj]; rfl) rfl hv
  rw [Array.getElem?_eq_getElem hin]
  generalize c[off + j] = u at this
  cases this; rfl
theorem rowsAt_bytes {r w x bt} {l : List UInt8} (h : RowsAt r w x bt 1 (l.map (Ty.enc .byte))) : BytesAt w x l ∧ l.length ≤ 9223372036854775807 := by
  rcases h with ⟨a, rfl, hl⟩ | ⟨b, off, cap, c, T, fr, rfl, h1, h2, h3, h4, h5, h6, h7, h8, h9⟩
  · have : l = [] := by simpa using hl
    subst this
    exact ⟨.nil a 0 rfl rfl, by simp⟩
  · rw [List.length_map] at h5
    refine ⟨.row b off cap c T fr (by rw [List.length_map]) h2 (bytes_cells (by omega) h9), by omega⟩
theorem lits_bytes {r β w x} {l : List UInt8} (hvis : ∀ b o, r b = some o → w.heap[b]? = some o) (h : Rel r β (.lits 1 (l.map (Ty.enc .byte))) x) : BytesAt w x l ∧ l.length ≤ 9223372036854775807 := by
  generalize hm : l.map (Ty.enc .byte) = rows at h
  cases h with
  | litsE =>
    have : l = [] := by simpa using hm
    subst this
    exact ⟨.nil _ _ rfl rfl, by simp⟩
  | lits hb hn hcap hrow ho hc hr =>
    subst hm
    rw [List.length_map] at *
    exact ⟨.row _ _ _ _ _ _ rfl (hvis _ _ hb) (bytes_cells (by omega) hr), hn⟩
theorem run_bytes_back {P : Program} {w : World} {s d e : TypeId} {v : Value} {l : List UInt8} (hs : P.underlying s = some (.slice e)) (he : P.underlying e = some (.int .u8)) (hd : P.underlying d = some .string) (h : BytesAt w v l) :
    (Go.convert s d v).run P w = .ok (.string ⟨l.toArray⟩) w := by
  cases h with
  | nil a cap hv hl =>
    subst hv; subst hl
    cases a with
    | none => rw [run_convert_bytes_string w s d e none 0 cap hs he hd]; rfl
    | some a => exact run_convert_bytes_back w s d e a cap [] hs he hd (fun j hj => by simp at hj)
  | row b off cap c T fr hv hw hc =>
    subst hv
    refine run_convert_bytes_back w s d e ⟨b, off, none⟩ cap l hs he hd fun j hj => ?_
    rw [add_mk, cell_of_block hw]
    exact hc j l[j] (List.getElem?_eq_getElem hj)

theorem convBK_sound {B : Base} {e N r β σ Φ a w n s d} {x : SV} {vx : Value} {K : EK} (h : convBK B s d x σ Φ n K) (st : Sat B e N r β σ Φ a w) (hx : Rel r β x vx) :
    ∃ sv Φ' n' v w' β', K sv σ Φ' n' ∧ (Go.convert s d vx).run B.P w = .ok v w' ∧ Rel r β' sv v ∧ Sat B e N r β' σ Φ' a w' := by
  unfold convBK at h
  split at h
  · rename_i el l hs hd
    split at h
    · rename_i he
      cases hx with
      | str hl =>
      have hz : (ByteArray.mk l.toArray).size = l.length := by simp [ByteArray.size]
      have hge : l.length ≤ grownCap w l.length 0 el := grownCap_ge w _ _ _
      have hle : grownCap w l.length 0 el ≤ 9223372036854775807 := grownCap_le_maxLen w _ _ _ (by show l.length ≤ 2 ^ 63 - 1; omega)
      have hrun := run_bytes_of_string (P := B.P) w s d el ⟨l.toArray⟩ hs hd he
      rw [hz] at hrun
      generalize hcap : grownCap w l.length 0 el = cap at hrun hge hle
      have hcz : (bytesRow ⟨l.toArray⟩ cap).size = cap := by
        unfold bytesRow
        have : (ByteArray.mk l.toArray).data.size = l.length := by simp
        simp [hz]; omega
      have hg : Grows w (w.drew.alloc (.cells (bytesRow ⟨l.toArray⟩ cap) el ((bytesRow ⟨l.toArray⟩ cap).size, (bytesRow ⟨l.toArray⟩ cap).size + 1))) :=
        ⟨rfl, rfl, rfl, by show w.heap.size ≤ (w.heap.push _).size; simp, fun b hb => by show (w.heap.push _)[b]? = _; rw [Array.getElem?_push, if_neg (by omega)]⟩
      have hrows : RowsAt r (w.drew.alloc (.cells (bytesRow ⟨l.toArray⟩ cap) el ((bytesRow ⟨l.toArray⟩ cap).size, (bytesRow ⟨l.toArray⟩ cap).size + 1))) (.slice (some ⟨w.heap.size, 0, none⟩) l.length cap) true 1 (l.map (Ty.enc .byte)) := by
        by_cases h0 : cap = 0
        · have : l = [] := List.length_eq_zero_iff.1 (by omega)
          subst this
          exact .inl ⟨_, by rw [h0]; rfl, rfl⟩
        · refine .inr ⟨w.heap.size, 0, cap, _, el, _, by rw [List.length_map], h0, ?_, .inr ⟨rfl, rfl⟩, hle, by rw [List.length_map]; exact hge, by rw [hcz]; omega, fun i row h => ?_, fun i row j sv h1 h2 => (by
              obtain ⟨y, hy, rfl⟩ : ∃ y, l[i]? = some y ∧ Ty.enc .byte y = row := by
                rw [List.getElem?_map] at h1
                cases hq : l[i]? with
                | none => rw [hq] at h1; cases h1
                | some y => rw [hq] at h1; exact ⟨y, rfl, by simpa using h1⟩
              exact enc_one .byte y j sv h2), fun i row j sv v h1 h2 h3 => ?_⟩
          · show (w.heap.push _)[w.heap.size]? = _
            simp
          · rw [List.getElem?_map] at h
            cases hq : l[i]? with
            | none => rw [hq] at h; cases h
            | some y => rw [hq] at h; simp at h; rw [← h]; rfl
          · rw [List.getElem?_map] at h1
            cases hq : l[i]? with
            | none => rw [hq] at h1; cases h1
            | some y =>
              rw [hq] at h1
              simp at h1
              subst h1
              cases j with
              | succ j => simp [Ty.enc] at h2
              | zero =>
                simp [Ty.enc] at h2
                subst h2
                have hil := lt_len hq
                have := bytesRow_at ⟨l.toArray⟩ cap i (by simpa using hil)
                have e : 0 + i * 1 + 0 = i := by omega
                rw [e, this] at h3
                simp at h3
                subst h3
                have hy : l[i] = y := by rw [List.getElem?_eq_getElem hil] at hq; simpa using hq
                rw [hy]
                exact .int
      obtain ⟨sv, σ', Φ', n', hk, rfl, β', hr, hsat⟩ := newChK_sound h st hg (v := .slice (some ⟨w.heap.size, 0, none⟩) l.length cap)
        (fun b hb => by
          simp only [Chunk.blk] at hb
          cases hq : Nat.beq cap 0 with
          | true => rw [hq] at hb; cases hb
          | false => rw [hq] at hb; simp at hb; omega) (.own hrows) (own_rel rfl)
      exact ⟨sv, Φ', n', _, _, β', hk, hrun, hr, hsat⟩
    · exact h.elim
  · rename_i el id hs hd
    split at h
    · rename_i τ l he hg
      obtain ⟨rfl, h⟩ := castK_sound h
      have hs' := st.mem.rowsR hg
      cases hs' with
      | own hrows =>
        obtain ⟨h1, h2⟩ := rowsAt_bytes hrows
        cases hx
        exact ⟨_, Φ, n, _, w, β, h, run_bytes_back hs he hd h1, .str h2, st⟩
    · exact h.elim
  · rename_i el τ l hs hd
    split at h
    · rename_i he
      obtain ⟨rfl, h⟩ := castK_sound h
      cases hx with
      | rd hx =>
        obtain ⟨h1, h2⟩ := lits_bytes st.mem.vis hx
        exact ⟨_, Φ, n, _, w, β, h, run_bytes_back hs he hd h1, .str h2, st⟩
    · exact h.elim
  · rename_i el hs hd
    split at h
    · rename_i he
      cases hx
      exact ⟨_, Φ, n, _, w, β, h, run_bytes_back hs he hd (.nil none 0 rfl rfl), .str (by simp), st⟩
    · exact h.elim
  · obtain ⟨sv, hk, hr⟩ := evConv_sound (P := B.P) h
    obtain ⟨v, hv, hw⟩ := hr (fun _ h => h) r β _ hx
    exact ⟨sv, Φ, n, v, w, β, hk, hw w, hv, st⟩
end Go.Vc
