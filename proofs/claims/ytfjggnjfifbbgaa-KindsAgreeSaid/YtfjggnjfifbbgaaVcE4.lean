/- A part of the proof: lemmas and walks that the last text of the claim joins; no condition. -/
import Derived.Test.YtfjggnjfifbbgaaVcE3
import Derived.Laws.RangeString
namespace Go.Vc
set_option autoImplicit false
set_option linter.unusedVariables false

/-- n copies of a row -/
theorem madeCells_get {z : Value} {sz n : Nat} (hz : z.cells.size = sz) (i j : Nat) (hi : i < n) (hj : j < sz) : (madeCells z.cells (n * sz))[i * sz + j]? = z.cells[j]? := by
  have hb : i * sz + j < n * sz := by
    have : (i + 1) * sz ≤ n * sz := Nat.mul_le_mul_right sz hi
    rw [Nat.add_mul] at this; omega
  have hm : (i * sz + j) % z.cells.size = j := by
    rw [hz, Nat.add_comm, Nat.add_mul_mod_self_right, Nat.mod_eq_of_lt hj]
  simp only [madeCells, Array.getElem?_map, Array.getElem?_range, hb, if_true, Option.map_some, hm]
  rw [Array.getElem?_eq_getElem (by omega)]
  congr 1
  exact getElem!_pos z.cells j (by omega)

theorem makeSliceK_sound {B : Base} {e N r β σ Φ a w n t} {ln cp : SV} {vl vc : Value} {K : EK} (h : makeSliceK B.P t ln cp σ Φ n K) (st : Sat B e N r β σ Φ a w) (hl : Rel r β ln vl) (hc : Rel r β cp vc) :
    ∃ sv Φ' n' v w' β', K sv σ Φ' n' ∧ (Instr.makeSlice t vl vc).run B.P w = .ok v w' ∧ Rel r β' sv v ∧ Sat B e N r β' σ Φ' a w' := by
  unfold makeSliceK at h
  split at h
  · rename_i el k1 a0 k2 c0 ht
    cases hl; cases hc
    cases hz0 : Nat.beq (sizeT B.P el) 0 with
    | true => rw [hz0] at h; exact h.elim
    | false =>
    rw [hz0] at h
    simp only [cond_false] at h
    obtain ⟨z, zv, h, hz1, _, hzrun, hzrel⟩ := zeroK_sound h
    cases hz2 : Nat.beq (len z) (sizeT B.P el) with
    | false => rw [hz2] at h; exact h.elim
    | true =>
    rw [hz2] at h
    obtain ⟨hob, α, d, enc, hed, h⟩ := h
    have hob := hob.h
    have hzl := beq_of hz2
    rw [len_eq] at hzl
    obtain ⟨i, hi⟩ : ∃ i, B.P.info? el = some i := by
      unfold sizeT at hz0
      cases hq : B.P.info? el with
      | none => rw [hq] at hz0; cases hz0
      | some i => exact ⟨i, rfl⟩
    have hby : bytesT B.P el = i.bytes := by simp [bytesT, hi]
    rw [sizeT_run hi] at hzl h
    rw [hby] at hob
    have hzc : zv.cells.size = i.size := by
      have := (hzrel r β).1
      simp at this
      omega
    have hrun := run_make (P := B.P) w t el i zv ht hi (zero_of_run hi (hzrun w)) k1 k2 a0 c0 hob.1 hob.2.1 (by have := hob.2.2.1; rw [Int.mul_comm]; omega) (by omega)
    have hrows : RowsAt r { w with heap := w.heap.push (.cells (madeCells zv.cells (c0.toNat * i.size)) el) } (.slice (some ⟨w.heap.size, 0, none⟩) a0.toNat c0.toNat) i.size ((List.replicate a0.toNat d).map enc) := by
      by_cases hcz : c0.toNat = 0
      · have : a0.toNat = 0 := by omega
        left
        exact ⟨_, by rw [hcz, this], by rw [this]; rfl⟩
      · right
        have rowz : ∀ (k : Nat) (row : List SV), ((List.replicate a0.toNat d).map enc)[k]? = some row → k < a0.toNat ∧ row = z := by
          intro k row hk
          have hlt := lt_len hk
          rw [List.length_map, List.length_replicate] at hlt
          refine ⟨hlt, ?_⟩
          rw [List.getElem?_map, List.getElem?_replicate, if_pos hlt] at hk
          simp at hk
          rw [← hk, hed]
        refine ⟨w.heap.size, 0, c0.toNat, _, el, (0, 0), by simp, hcz, heap_alloc_eq, by intro j _; omega, by simp; omega, by simp; omega, by rw [size_madeCells]; omega, ?_, ?_, ?_⟩
        · intro k row hk; rw [(rowz k row hk).2, hzl]
        · intro k row j sv hk hj
          rw [(rowz k row hk).2] at hj
          exact allOne_get hz1 j sv hj
        · intro k row j sv v hk hj hv
          obtain ⟨hk1, hk2⟩ := rowz k row hk
          subst hk2
          have hjl := lt_len hj
          rw [hzl] at hjl
          rw [Nat.zero_add, madeCells_get hzc k j (by omega) hjl] at hv
          exact (hzrel r β0).2 j sv v hj (by simpa using hv)
    obtain ⟨sv, σ', Φ', n', hk, rfl, β', hr', hsat⟩ := newChK_sound h st (Grows.alloc w (.cells (madeCells zv.cells (c0.toNat * i.size)) el)) (v := .slice (some ⟨w.heap.size, 0, none⟩) a0.toNat c0.toNat)
      (fun b hb => by
        simp only [Chunk.blk] at hb
        cases hq : Nat.beq c0.toNat 0 with
        | true => rw [hq] at hb; cases hb
        | false => rw [hq] at hb; simp at hb; omega) (.own hrows) (own_rel rfl)
    exact ⟨sv, Φ', n', _, _, β', hk, hrun, hr', hsat⟩
  · exact h.elim

/-- a new block that does not change any more -/
theorem sat_grow {B : Base} {e N r β σ Φ a w} {o : Obj} (s : Sat B e N r β σ Φ a w) :
    r.le (fun b => bif Nat.beq b w.heap.size then some o else r b) ∧ Sat B e N (fun b => bif Nat.beq b w.heap.size then some o else r b) β σ Φ a { w with heap := w.heap.push o } := by
  have hold : ∀ b, b < w.heap.size → Nat.beq b w.heap.size = false := fun b hb => nbeq_of (by omega)
  have hle : r.le (fun b => bif Nat.beq b w.heap.size then some o else r b) := by
    intro b o' h
    have := lt_of_heap (s.mem.vis _ _ h)
    show (bif Nat.beq b w.heap.size then some o else r b) = some o'
    rw [hold b this]; exact h
  refine ⟨hle, fun k g sv hg => ?_, ⟨fun b o' h => ?_, fun id ch h => ?_, fun id ch b h1 h2 => ?_, s.mem.nod⟩, B.mono _ _ hle s.G, Mem.le_trans s.le hle,
    ⟨s.hid.os, s.hid.tape, s.hid.output, ?_, fun b hb h1 h2 => ?_⟩, s.defers, s.size⟩
  · have := s.agree k g sv hg
    cases g with
    | none => obtain ⟨u, q1, q2⟩ := this; exact ⟨u, q1, q2.mono hle⟩
    | some p => obtain ⟨s', w''⟩ := p; exact ⟨fun hs => by obtain ⟨u, q1, q2⟩ := this.1 hs; exact ⟨u, q1, q2.mono hle⟩, this.2⟩
  · cases hq : Nat.beq b w.heap.size with
    | true =>
      obtain rfl := beq_of hq
      simp only [hq, cond_true] at h
      rw [← h]; exact heap_alloc_eq
    | false =>
      simp only [hq, cond_false] at h
      have := s.mem.vis _ _ h
      rw [heap_alloc_lt (lt_of_heap this)]; exact this
  · exact (s.mem.chs _ _ h).keep hle (fun b hb => heap_alloc_lt ((s.mem.chs _ _ h).alive hb)) (fun _ _ _ _ _ _ h => h)
  · show (bif Nat.beq b w.heap.size then some o else r b) = none
    rw [hold b ((s.mem.chs _ _ h1).alive h2)]
    exact s.mem.sep _ _ _ h1 h2
  · show e.w.heap.size ≤ (w.heap.push o).size
    have := s.hid.size
    simp; omega
  · obtain ⟨q1, q2, q3⟩ := s.hid.block b hb h1 h2
    have hlt : b < w.heap.size := Nat.lt_of_lt_of_le hb s.hid.size
    refine ⟨by rw [heap_alloc_lt hlt]; exact q1, ?_, q3⟩
    show (bif Nat.beq b w.heap.size then some o else r b) = none
    rw [hold b hlt]; exact q2

theorem repK_sound {z : List SV} : ∀ {n : Nat} {K : List SV → Prop}, repK z n K → ∃ l, K l ∧ l.length = n * z.length ∧ ∀ i j, i < n → j < z.length → l[i * z.length + j]? = z[j]? := by
  intro n
  induction n with
  | zero => intro K h; exact ⟨[], h, by simp, fun i j hi => by omega⟩
  | succ n ih =>
    intro K h
    obtain ⟨l, h, h1, h2⟩ := ih h
    obtain ⟨l', h, q1, _, q3⟩ := fillAt_sound h
    refine ⟨l', h, by rw [q1, List.length_append, h1, Nat.add_mul]; omega, fun i j hi hj => ?_⟩
    rw [q3]
    cases i with
    | zero => rw [if_pos (by omega)]; simp
    | succ i =>
      have e : (i + 1) * z.length + j = z.length + (i * z.length + j) := by rw [Nat.add_mul]; omega
      rw [e, if_neg (by omega), List.getElem?_append_right (by omega), Nat.add_sub_cancel_left]
      exact h2 i j (by omega) hj

theorem chunksK_sound {sz : Nat} : ∀ {n : Nat} {l : List SV} {K : List (List SV) → Prop}, chunksK sz n l K → ∃ rows, K rows ∧ rows.length = n ∧ n * sz ≤ l.length ∧ ∀ i row, rows[i]? = some row → row = (l.drop (i * sz)).take sz := by
  intro n
  induction n with
  | zero => intro l K h; exact ⟨[], h, rfl, by simp, fun i row h => by simp at h⟩
  | succ n ih =>
    intro l K h
    obtain ⟨h, hl⟩ := subK_sound h
    obtain ⟨rows, h, h1, h2, h3⟩ := ih h
    refine ⟨_, h, by simp [h1], by simp at h2; rw [Nat.add_mul]; omega, fun i row hi => ?_⟩
    cases i with
    | zero => simp at hi; rw [← hi]; simp
    | succ i =>
      have := h3 i row (by simpa using hi)
      rw [this, List.drop_drop, Nat.add_mul]
      congr 2; omega

theorem buildSliceK_sound {B : Base} {e N r β σ Φ a w n t ln parts} {K : EK} (h : buildSliceK B.P σ t ln parts Φ n K) (st : Sat B e N r β σ Φ a w) :
    ∃ sv v w' r', K sv σ Φ n ∧ (Instr.buildSlice t ln (parts.map fun (i, x) => (i, a.eval x)).toArray).run B.P w = .ok v w' ∧ Rel r' β sv v ∧ Sat B e N r' β σ Φ a w' := by
  unfold buildSliceK at h
  split at h
  · rename_i el ht
    cases hz0 : (Nat.beq (sizeT B.P el) 0 || !Nat.ble (ln * sizeT B.P el) 16777216) with
    | true => rw [hz0] at h; exact h.elim
    | false =>
    rw [hz0] at h
    simp only [cond_false] at h
    simp only [Bool.or_eq_false_iff, Bool.not_eq_false'] at hz0
    obtain ⟨hz0, hble⟩ := hz0
    have hble := Nat.le_of_ble_eq_true hble
    obtain ⟨z, zv, h, hz1, _, hzrun, hzrel⟩ := zeroK_sound h
    cases hz2 : Nat.beq (len z) (sizeT B.P el) with
    | false => rw [hz2] at h; exact h.elim
    | true =>
    rw [hz2] at h
    simp only [cond_true] at h
    have hzl := beq_of hz2
    rw [len_eq] at hzl
    obtain ⟨flat, h, hfl, hfg⟩ := repK_sound h
    obtain ⟨l, h, hr⟩ := fillK_sound h
    cases hz3 : (SV.okIdsL (fun _ => false) l && allOne l) with
    | false => rw [hz3] at h; exact h.elim
    | true =>
    rw [hz3] at h
    simp only [Bool.and_eq_true] at hz3
    obtain ⟨hz3, hz4⟩ := hz3
    obtain ⟨rows, hk, h1, h2, h3⟩ := chunksK_sound h
    obtain ⟨i, hi⟩ : ∃ i, B.P.info? el = some i := by
      unfold sizeT at hz0
      cases hq : B.P.info? el with
      | none => rw [hq] at hz0; cases hz0
      | some i => exact ⟨i, rfl⟩
    rw [sizeT_run hi] at *
    have hzc : zv.cells.size = i.size := by
      have := (hzrel r β).1
      simp at this
      omega
    have hsz : 0 < i.size := by
      rcases Nat.eq_zero_or_pos i.size with h | h
      · rw [h] at hz0; cases hz0
      · exact h
    have hflat : RelL r β flat (madeCells zv.cells (ln * i.size)).toList := by
      refine ⟨by rw [Array.length_toList, size_madeCells, hfl, hzl], fun k sv v q1 q2 => ?_⟩
      have hk := lt_len q1
      rw [hfl, hzl] at hk
      have hd : k / i.size < ln := (Nat.div_lt_iff_lt_mul hsz).2 hk
      have hm : k % i.size < i.size := Nat.mod_lt _ hsz
      have e : k / i.size * i.size + k % i.size = k := by rw [Nat.mul_comm]; exact Nat.div_add_mod k i.size
      have g1 := hfg (k / i.size) (k % i.size) hd (by rw [hzl]; exact hm)
      rw [hzl, e, q1] at g1
      have g2 := madeCells_get hzc (k / i.size) (k % i.size) hd hm
      have q2' : (madeCells zv.cells (ln * i.size))[k]? = some v := by simpa using q2
      rw [e, q2'] at g2
      exact (hzrel r β).2 _ _ _ g1.symm (by simpa using g2.symm)
    obtain ⟨us, hus, hul⟩ := hr r β a _ (Sm.plain st.agree) _ hflat
    obtain ⟨hle, hsat⟩ := sat_grow (o := .cells us el) st
    refine ⟨_, .slice (some ⟨w.heap.size, 0, none⟩) ln ln, _, _, hk, ?_, ?_, hsat⟩
    · have hbig : ¬ (ln * i.size > 2 ^ 24) := by omega
      simp only [Instr.buildSlice, Sem.run_bind, run_underlying ht, Result.andThen_ok, run_sizeOf hi, hbig, if_false, Sem.run_pure]
      have hus' : ∀ (Z : Array Value), (ln * i.size ≠ 0 → Z = zv.cells) → Instr.fill (fun k => some (k * i.size, i.size)) ((Array.range (ln * i.size)).map (Z[· % Z.size]!)) (parts.map fun (k, x) => (k, a.eval x)) = some us := by
        intro Z hZ
        by_cases h0 : ln * i.size = 0
        · have e : (Array.range (ln * i.size)).map (Z[· % Z.size]!) = madeCells zv.cells (ln * i.size) := by rw [h0]; simp [madeCells]
          rw [e]; exact hus
        · rw [hZ h0]; exact hus
      by_cases h0 : ln * i.size = 0
      · rw [if_pos h0]
        simp only [Sem.run_bind, Sem.run_pure, Result.andThen_ok, hus' #[] (fun h => (h h0).elim), newRow, run_newObj]
      · rw [if_neg h0]
        simp only [Sem.run_bind, hzrun w, Sem.run_pure, Result.andThen_ok, hus' zv.cells (fun _ => rfl), newRow, run_newObj]
    · by_cases hl0 : ln = 0
      · subst hl0
        have : rows = [] := List.length_eq_zero_iff.1 h1
        subst this
        exact .litsE
      · have rowlen : ∀ (k : Nat) (row : List SV), rows[k]? = some row → row.length = i.size := by
          intro k row hk'
          rw [h3 k row hk']
          have hkl := lt_len hk'
          rw [h1] at hkl
          have : (k + 1) * i.size ≤ ln * i.size := Nat.mul_le_mul_right _ hkl
          rw [Nat.add_mul] at this
          simp; omega
        have hget : ∀ (k : Nat) (row : List SV) (j : Nat) (sv : SV), rows[k]? = some row → row[j]? = some sv → l[k * i.size + j]? = some sv := by
          intro k row j sv hk' hj
          rw [h3 k row hk', List.getElem?_take] at hj
          split at hj
          · rw [List.getElem?_drop] at hj; exact hj
          · cases hj
        have := Rel.lits (r := fun b => bif Nat.beq b w.heap.size then some (Obj.cells us el) else r b) (β := β) (sz := i.size) (rows := rows) (b := w.heap.size) (off := 0) (cap := ln) (c := us) (T := el) (fr := (0, 0))
          (by simp [Nat.beq_refl]) (by rw [h1]; have := Nat.le_mul_of_pos_right ln hsz; omega) (by omega) rowlen
          (fun k row j sv hk' hj => allOne_get hz4 _ _ (hget k row j sv hk' hj))
          (by have := hul.1; simp at this; rw [h1]; omega)
          (fun k row j sv v hk' hj hv => by
            rw [Nat.zero_add] at hv
            have hlj := hget k row j sv hk' hj
            exact ((hul.2 _ _ _ hlj (by simpa using hv)).pure (SV.okIdsL_get hz3 _ _ hlj) β0).mono hle)
        rw [h1] at this
        exact this
  · exact h.elim

theorem rangeK_sound {B : Base} {e N r β σ Φ a w n t} {x : SV} {vx : Value} {K : EK} (h : rangeK B.P t x σ Φ n K) (st : Sat B e N r β σ Φ a w) (hx : Rel r β x vx) :
    ∃ sv Φ' n' v w' β', K sv σ Φ' n' ∧ (Instr.range t vx).run B.P w = .ok v w' ∧ Rel r β' sv v ∧ Sat B e N r β' σ Φ' a w' := by
  unfold rangeK at h
  split at h
  · rename_i l hu
    cases hx
    rename_i hlen
    obtain ⟨sv, σ', Φ', n', hk, rfl, β', hr', hsat⟩ := newChK_sound h st (Grows.alloc w (.stringIter ⟨l.toArray⟩ 0)) (v := .pointer (some ⟨w.heap.size, 0, none⟩))
      (fun b hb => by simp [Chunk.blk] at hb; omega) (.iter rfl heap_alloc_eq hlen) (.loc (setB_self _ _ _))
    refine ⟨sv, Φ', n', _, _, β', hk, ?_, hr', hsat⟩
    simp only [Instr.range, Sem.run_bind, run_underlying hu, Result.andThen_ok, Sem.run_pure, run_newObj]
  · exact h.elim

theorem nextK_sound {B : Base} {e N r β σ Φ a w n is ty} {x : SV} {vx : Value} {K : EK} (h : nextK x is σ Φ n K) (st : Sat B e N r β σ Φ a w) (hx : Rel r β x vx) :
    ∃ sv Φ' n' v w', K sv σ Φ' n' ∧ (Instr.next vx is ty).run B.P w = .ok v w' ∧ Rel r β sv v ∧ Sat B e N r β σ Φ' a w' := by
  unfold nextK at h
  split at h
  · rename_i id
    split at h
    · rename_i s pos hg
      obtain ⟨h1, h2⟩ := h
      cases hx with
      | loc hβ =>
        rename_i b
        have hs := st.mem.rows hg
        cases hs with
        | iter hxb hw hlen =>
          rename_i b'
          rw [hβ] at hxb
          obtain rfl : b = b' := by simpa using hxb
          have hz : (ByteArray.mk s.toArray).size = s.length := by simp [ByteArray.size]
          by_cases hp : pos < s.length
          · obtain ⟨Φ', hk, hΦ⟩ := setPK_sound (h1 hp) (hasId_of hg)
            have hlt := lt_of_heap hw
            refine ⟨_, Φ', n, _, { w with heap := w.heap.setIfInBounds b (.stringIter ⟨s.toArray⟩ (pos + (decL s pos).2)) }, hk, ?_, .tup (cs := [.bool true, .int .i64 pos, .int .i32 (decL s pos).1]) rfl ?_, ?_⟩
            · have hp' : pos < (ByteArray.mk s.toArray).size := by rw [hz]; exact hp
              simp only [Instr.next, Sem.run_bind, getObj, Sem.run, hw, Result.andThen_ok]
              simp only [hp', if_true, setObj, Sem.run_bind, Sem.run, hw, Result.andThen_ok, Sem.run_pure, goInt]
              rfl
            · intro i sv v q1 q2
              match i with
              | 0 => simp at q1 q2; subst q1; subst q2; exact .bool
              | 1 => simp at q1 q2; subst q1; subst q2; exact .int
              | 2 => simp at q1 q2; subst q1; subst q2; exact .int
              | i + 3 => simp at q1
            · refine sat_upd st hg hΦ ⟨rfl, rfl, rfl, by simp, fun b' hb' => ?_⟩ (by rw [hβ]; rfl) (by rw [hβ]; rfl) (.iter hβ (by simp [hlt]) hlen)
              show (w.heap.setIfInBounds b _)[b']? = _
              rw [Array.getElem?_setIfInBounds_ne (fun h => hb' h.symm)]
          · refine ⟨_, Φ, n, _, w, h2 hp, ?_, .tup (cs := [.bool false]) rfl ?_, st⟩
            · have hp' : ¬ pos < (ByteArray.mk s.toArray).size := by rw [hz]; exact hp
              simp only [Instr.next, Sem.run_bind, getObj, Sem.run, hw, Result.andThen_ok]
              simp only [hp', if_false]
              rfl
            · intro i sv v q1 q2
              cases i with
              | zero => simp at q1 q2; subst q1; subst q2; exact .bool
              | succ i => simp at q1
    · exact h.elim
  · exact h.elim

end Go.Vc
