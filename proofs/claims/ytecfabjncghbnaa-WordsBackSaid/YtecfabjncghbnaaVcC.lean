/- A part of the proof: lemmas and walks that the last text of the claim joins; no condition. -/
import Derived.Test.YtecfabjncghbnaaVcB
import Derived.Laws.RangeString
import Derived.Laws.AppendOwn
import Derived.Laws.MakeOwn
import Derived.MapKept
set_option linter.unusedVariables false
set_option linter.unusedSimpArgs false
namespace Go.Vc
set_option autoImplicit false
set_option linter.unusedVariables false
set_option linter.unusedSimpArgs false

theorem lt_len {α : Type _} {l : List α} {i : Nat} {x : α} (h : l[i]? = some x) : i < l.length := by
  rcases Nat.lt_or_ge i l.length with h' | h'
  · exact h'
  · rw [List.getElem?_eq_none h'] at h; cases h
theorem toList_relL {r β l} {vs : Array Value} (h : RelL r β l vs.toList) : vs.size = l.length := by have := h.1; simpa using this

/-- n copies of a row -/
theorem madeCells_get {z : Value} {sz n : Nat} (hz : z.cells.size = sz) (i j : Nat) (hi : i < n) (hj : j < sz) : (madeCells z.cells (n * sz))[i * sz + j]? = z.cells[j]? := by
  have hb : i * sz + j < n * sz := by
    have : (i + 1) * sz ≤ n * sz := Nat.mul_le_mul_right sz hi
    rw [Nat.add_mul] at this; omega
  have hm : (i * sz + j) % z.cells.size = j := by
    rw [hz, Nat.add_comm, Nat.add_mul_mod_self_right, Nat.mod_eq_of_lt hj]
  simp only [madeCells, Array.getElem?_map, Array.getElem?_range, hb, if_true, Option.map_some, hm]
  rw [Array.getElem?_eq_getElem (by omega)]
  congr 1
  exact getElem!_pos z.cells j (by omega)

theorem repK_sound {z : List SV} : ∀ {n : Nat} {K : List SV → Prop}, repK z n K → ∃ l, K l ∧ l.length = n * z.length ∧ ∀ i j, i < n → j < z.length → l[i * z.length + j]? = z[j]? := by
  intro n
  induction n with
  | zero => intro K h; exact ⟨[], h, by simp, fun i j hi => by omega⟩
  | succ n ih =>
    intro K h
    obtain ⟨l, h, h1, h2⟩ := ih h
    obtain ⟨l', h, q1, _, q3⟩ := fillAt_sound h
    refine ⟨l', h, by rw [q1, List.length_append, h1, Nat.add_mul]; omega, fun i j hi hj => ?_⟩
    rw [q3]
    cases i with
    | zero => rw [if_pos (by omega)]; simp
    | succ i =>
      have e : (i + 1) * z.length + j = z.length + (i * z.length + j) := by rw [Nat.add_mul]; omega
      rw [e, if_neg (by omega), List.getElem?_append_right (by omega), Nat.add_sub_cancel_left]
      exact h2 i j (by omega) hj

theorem chunksK_sound {sz : Nat} : ∀ {n : Nat} {l : List SV} {K : List (List SV) → Prop}, chunksK sz n l K → ∃ rows, K rows ∧ rows.length = n ∧ n * sz ≤ l.length ∧ ∀ i row, rows[i]? = some row → row = (l.drop (i * sz)).take sz := by
  intro n
  induction n with
  | zero => intro l K h; exact ⟨[], h, rfl, by simp, fun i row h => by simp at h⟩
  | succ n ih =>
    intro l K h
    obtain ⟨h, hl⟩ := subK_sound h
    obtain ⟨rows, h, h1, h2, h3⟩ := ih h
    refine ⟨_, h, by simp [h1], by simp at h2; rw [Nat.add_mul]; omega, fun i row hi => ?_⟩
    cases i with
    | zero => simp at hi; rw [← hi]; simp
    | succ i =>
      have := h3 i row (by simpa using hi)
      rw [this, List.drop_drop, Nat.add_mul]
      congr 2; omega


theorem szOk_info {P : Program} {e : TypeId} {s : Nat} (h : szOk P e s = true) : ∃ i, P.info? e = some i ∧ i.size = s := by
  obtain ⟨h1, h2⟩ := szOk_spec h
  obtain ⟨i, hi⟩ := Option.ne_none_iff_exists'.1 h2
  exact ⟨i, hi, by rw [← h1, sizeT_run hi]⟩

/-- a slice that is written out: its rows, and the new block -/
theorem rowsOfK_sound {P : Program} {σ ctx e ln parts} {K : List (List SV) → Prop} (h : rowsOfK P σ ctx e ln parts K) :
    ∃ rows, K rows ∧ rows.length = ln ∧ (∀ (i : Nat) row, rows[i]? = some row → row.length = sizeT P e) ∧ sizeT P e ≠ 0 ∧ ln * sizeT P e ≤ 16777216 ∧
      (∀ (i : Nat) row (j : Nat) sv, rows[i]? = some row → row[j]? = some sv → sv.one = true ∧ sv.okIds (fun _ => false) = true) ∧
      ∀ p r β (a : Act) g, (∀ y ∈ parts, Has p y.2) → Sm p r β σ a.tmps ctx g → ∃ us : Array Value, us.size = ln * sizeT P e ∧
        (∀ t w, P.underlying t = some (.slice e) → (Instr.buildSlice t ln (parts.map fun (i, x) => (i, a.eval x)).toArray).run P w = .ok (.slice (some ⟨w.heap.size, 0, none⟩) ln ln) { w with heap := w.heap.push (.cells us e) }) ∧
        ∀ (i : Nat) row (j : Nat) sv v, rows[i]? = some row → row[j]? = some sv → us[i * sizeT P e + j]? = some v → Rel r β0 sv v := by
  unfold rowsOfK at h
  cases hz0 : (Nat.beq (sizeT P e) 0 || !Nat.ble (ln * sizeT P e) 16777216) with
  | true => rw [hz0] at h; exact h.elim
  | false =>
  rw [hz0] at h
  simp only [cond_false] at h
  simp only [Bool.or_eq_false_iff, Bool.not_eq_false'] at hz0
  obtain ⟨hz0, hble⟩ := hz0
  have hble := Nat.le_of_ble_eq_true hble
  obtain ⟨z, zv, h, hz1, _, hzrun, hzrel⟩ := zeroK_sound h
  cases hz2 : Nat.beq (len z) (sizeT P e) with
  | false => rw [hz2] at h; exact h.elim
  | true =>
  rw [hz2] at h
  simp only [cond_true] at h
  have hzl := beq_of hz2
  rw [len_eq] at hzl
  obtain ⟨flat, h, hfl, hfg⟩ := repK_sound h
  obtain ⟨l, h, hll, hr⟩ := fillK_sound h
  cases hz3 : (SV.okIdsL (fun _ => false) l && allOne l) with
  | false => rw [hz3] at h; exact h.elim
  | true =>
  rw [hz3] at h
  simp only [Bool.and_eq_true] at hz3
  obtain ⟨hz3, hz4⟩ := hz3
  obtain ⟨rows, hk, h1, h2, h3⟩ := chunksK_sound h
  obtain ⟨i, hi⟩ : ∃ i, P.info? e = some i := by
    unfold sizeT at hz0
    cases hq : P.info? e with
    | none => rw [hq] at hz0; cases hz0
    | some i => exact ⟨i, rfl⟩
  rw [sizeT_run hi] at *
  have hsz : 0 < i.size := by
    rcases Nat.eq_zero_or_pos i.size with h | h
    · rw [h] at hz0; cases hz0
    · exact h
  have rowlen : ∀ (k : Nat) (row : List SV), rows[k]? = some row → row.length = i.size := by
    intro k row hk'
    rw [h3 k row hk']
    have hkl := lt_len hk'
    rw [h1] at hkl
    have : (k + 1) * i.size ≤ ln * i.size := Nat.mul_le_mul_right _ hkl
    rw [Nat.add_mul] at this
    simp; omega
  have hget : ∀ (k : Nat) (row : List SV) (j : Nat) (sv : SV), rows[k]? = some row → row[j]? = some sv → l[k * i.size + j]? = some sv := by
    intro k row j sv hk' hj
    rw [h3 k row hk', List.getElem?_take] at hj
    split at hj
    · rw [List.getElem?_drop] at hj; exact hj
    · cases hj
  refine ⟨rows, hk, h1, rowlen, by omega, hble, fun k row j sv a1 a2 => ⟨allOne_get hz4 _ _ (hget k row j sv a1 a2), SV.okIdsL_get hz3 _ _ (hget k row j sv a1 a2)⟩, fun p r β a g hP sm => ?_⟩
  have hzc : zv.cells.size = i.size := by
    have := (hzrel r β).1
    simp at this
    omega
  have hflat : RelL r β flat (madeCells zv.cells (ln * i.size)).toList := by
    refine ⟨by rw [Array.length_toList, size_madeCells, hfl, hzl], fun k sv v q1 q2 => ?_⟩
    have hk := lt_len q1
    rw [hfl, hzl] at hk
    have hd : k / i.size < ln := (Nat.div_lt_iff_lt_mul hsz).2 hk
    have hm : k % i.size < i.size := Nat.mod_lt _ hsz
    have e : k / i.size * i.size + k % i.size = k := by rw [Nat.mul_comm]; exact Nat.div_add_mod k i.size
    have g1 := hfg (k / i.size) (k % i.size) hd (by rw [hzl]; exact hm)
    rw [hzl, e, q1] at g1
    have g2 := madeCells_get hzc (k / i.size) (k % i.size) hd hm
    have q2' : (madeCells zv.cells (ln * i.size))[k]? = some v := by simpa using q2
    rw [e, q2'] at g2
    exact (hzrel r β).2 _ _ _ g1.symm (by simpa using g2.symm)
  obtain ⟨us, hus, hul⟩ := hr p r β a g hP sm _ hflat
  have hl : l.length = ln * i.size := by rw [hll, hfl, hzl]
  refine ⟨us, by rw [toList_relL hul]; exact hl, fun t w ht => ?_, fun k row j sv v a1 a2 a3 => ?_⟩
  · have hbig : ¬ (ln * i.size > 2 ^ 24) := by omega
    simp only [Instr.buildSlice, Sem.run_bind, run_underlying ht, Result.andThen_ok, run_sizeOf hi, hbig, if_false, Sem.run_pure]
    have hus' : ∀ (Z : Array Value), (ln * i.size ≠ 0 → Z = zv.cells) → Instr.fill (fun k => some (k * i.size, i.size)) ((Array.range (ln * i.size)).map (Z[· % Z.size]!)) (parts.map fun (k, x) => (k, a.eval x)) = some us := by
      intro Z hZ
      by_cases h0 : ln * i.size = 0
      · have e : (Array.range (ln * i.size)).map (Z[· % Z.size]!) = madeCells zv.cells (ln * i.size) := by rw [h0]; simp [madeCells]
        rw [e]; exact hus
      · rw [hZ h0]; exact hus
    by_cases h0 : ln * i.size = 0
    · rw [if_pos h0]
      simp only [Sem.run_bind, Sem.run_pure, Result.andThen_ok, hus' #[] (fun h => (h h0).elim), newRow, run_newObj]
    · rw [if_neg h0]
      simp only [Sem.run_bind, hzrun w, Sem.run_pure, Result.andThen_ok, hus' zv.cells (fun _ => rfl), newRow, run_newObj]
  · have hlj := hget k row j sv a1 a2
    exact (hul.2 _ _ _ hlj (by simpa using a3)).pure (SV.okIdsL_get hz3 _ _ hlj) β0

end Go.Vc

namespace Go.Vc
set_option autoImplicit false
set_option linter.unusedVariables false

theorem relL_nth {r β l vs} (h : RelL r β l vs) {i : Nat} {sv : SV} (hi : nth l i = some sv) : ∃ v, vs.toArray[i]? = some v ∧ Rel r β sv v := by
  rw [nth_eq] at hi
  have hl := lt_len hi
  have : i < vs.length := by rw [h.1]; exact hl
  exact ⟨vs[i], by simp [this], h.2 i sv _ hi (List.getElem?_eq_getElem this)⟩
theorem run_part_cell {P : Program} {t : TypeId} {cs : Array Value} {off : Nat} {v : Value} {w : World} (ha : ∀ d, P.underlying t = some d → isAggD d = false) (hu : ∃ d, P.underlying t = some d) (hv : cs[off]? = some v) : (part t cs off).run P w = .ok v w := by
  obtain ⟨d, hu⟩ := hu
  have := ha d hu
  unfold part isAgg
  simp only [Sem.run_bind, run_underlying hu, Result.andThen_ok, Sem.run_pure]
  cases d <;> simp [isAggD] at this <;> simp [hv]
theorem eqFieldsK_sound {P : Program} {xs ys : List SV} : ∀ {fs : List Field} {K : Bool → Prop}, eqFieldsK P xs ys fs K → (∀ f ∈ fs, f.name ≠ "_") →
    ∃ b, K b ∧ ∀ r β vs us, RelL r β xs vs → RelL r β ys us → ∀ w, (Op.eqFields 9999 vs.toArray us.toArray fs).run P w = .ok b w := by
  intro fs
  induction fs with
  | nil => intro K h _; exact ⟨true, h, fun r β vs us _ _ w => rfl⟩
  | cons f fs ih =>
    intro K h hn
    have hn1 : f.name ≠ "_" := hn f (by simp)
    have step : ∀ {K : Bool → Prop} (c : Bool), eqFieldsK P xs ys fs (fun r => K (c && r)) →
        (∀ r β vs us, RelL r β xs vs → RelL r β ys us → ∃ a b, (∀ w, (part f.type vs.toArray f.offset).run P w = .ok a w) ∧ (∀ w, (part f.type us.toArray f.offset).run P w = .ok b w) ∧ ∀ w, (Op.equalIn 9999 f.type a b).run P w = .ok c w) →
        ∃ b, K b ∧ ∀ r β vs us, RelL r β xs vs → RelL r β ys us → ∀ w, (Op.eqFields 9999 vs.toArray us.toArray (f :: fs)).run P w = .ok b w := by
      intro K c hk hrun
      obtain ⟨b, hb, hrest⟩ := ih hk (fun g hg => hn g (by simp [hg]))
      refine ⟨_, hb, fun r β vs us h1 h2 w => ?_⟩
      obtain ⟨a, b', p1, p2, p3⟩ := hrun r β vs us h1 h2
      unfold Op.eqFields
      rw [if_pos hn1]
      simp only [Sem.run_bind, p1 w, p2 w, p3 w, Result.andThen_ok]
      cases c with
      | true => simp only [Bool.not_true, Bool.false_eq_true, if_false, Bool.true_and]; exact hrest r β vs us h1 h2 w
      | false => rfl
    unfold eqFieldsK at h
    split at h
    · rename_i k0 k a k' b hu hx hy
      cases hk : kEq k k' with
      | false => rw [hk] at h; exact h.elim
      | true =>
        rw [hk] at h
        obtain rfl := kEq_of hk
        refine step (a == b) h fun r β vs us h1 h2 => ?_
        obtain ⟨v1, g1, r1⟩ := relL_nth h1 hx
        obtain ⟨v2, g2, r2⟩ := relL_nth h2 hy
        cases r1; cases r2
        exact ⟨_, _, fun w => run_part_cell (fun d hd => by rw [hu] at hd; cases hd; rfl) ⟨_, hu⟩ g1, fun w => run_part_cell (fun d hd => by rw [hu] at hd; cases hd; rfl) ⟨_, hu⟩ g2, fun w => run_equalIn_int w 9998 f.type _ k0 a b hu⟩
    · rename_i a b hu hx hy
      refine step (a == b) h fun r β vs us h1 h2 => ?_
      obtain ⟨v1, g1, r1⟩ := relL_nth h1 hx
      obtain ⟨v2, g2, r2⟩ := relL_nth h2 hy
      cases r1; cases r2
      refine ⟨_, _, fun w => run_part_cell (fun d hd => by rw [hu] at hd; cases hd; rfl) ⟨_, hu⟩ g1, fun w => run_part_cell (fun d hd => by rw [hu] at hd; cases hd; rfl) ⟨_, hu⟩ g2, fun w => ?_⟩
      rw [run_equalIn_string w 9998 f.type _ _ hu, ByteArray.toList_eq, ByteArray.toList_eq]
    · rename_i a b hu hx hy
      refine step (a == b) h fun r β vs us h1 h2 => ?_
      obtain ⟨v1, g1, r1⟩ := relL_nth h1 hx
      obtain ⟨v2, g2, r2⟩ := relL_nth h2 hy
      cases r1; cases r2
      exact ⟨_, _, fun w => run_part_cell (fun d hd => by rw [hu] at hd; cases hd; rfl) ⟨_, hu⟩ g1, fun w => run_part_cell (fun d hd => by rw [hu] at hd; cases hd; rfl) ⟨_, hu⟩ g2, fun w => run_equalIn_bool' w 9998 f.type a b hu⟩
    · exact h.elim

theorem evBinB_sound {B : Base} {op t x y g} {K : SV → Prop} (h : evBinB B op t x y g K) :
    ∃ sv, K sv ∧ ((∀ p, g p → p) → ∀ r β vx vy, Rel r β x vx → Rel r β y vy → (∀ ox oy w, (eqGuard op t ox oy vx vy).run B.P w = .ok () w) ∧ ∃ v, Rel r β sv v ∧ ∀ w, (Go.binOp op t vx vy).run B.P w = .ok v w) := by
  unfold evBinB at h
  split at h
  · rename_i xs ys
    cases he : B.eqs t with
    | false => rw [he] at h; exact h.elim
    | true =>
      rw [he] at h
      obtain ⟨h1, h2, h3⟩ := B.eqs_ok t he
      simp only [cond_true] at h
      split at h
      · rename_i fs hu
        have hf : B.P.fieldsOf t = ⟨fs⟩ := by unfold Program.fieldsOf; rw [hu]
        rw [hf] at h3
        obtain ⟨b, hk, hb⟩ := eqFieldsK_sound h (fun f hf => by simpa using List.all_eq_true.1 h3 f hf)
        refine ⟨_, hk, fun hv r β vx vy hx hy => ?_⟩
        obtain ⟨cs, rfl, hcs⟩ := hx.aggL_inv
        obtain ⟨ds, rfl, hds⟩ := hy.aggL_inv
        refine ⟨fun ox oy w => run_eqGuard_agg w _ t ox oy _ _ h2, _, .bool, fun w => ?_⟩
        rw [run_eql_struct, run_equalIn_agg w 9999 t _ _ (by rw [hf]; exact hu) h1, hf, hb r β cs ds hcs hds w]
        rfl
      · rename_i fs hu
        have hf : B.P.fieldsOf t = ⟨fs⟩ := by unfold Program.fieldsOf; rw [hu]
        rw [hf] at h3
        obtain ⟨b, hk, hb⟩ := eqFieldsK_sound h (fun f hf => by simpa using List.all_eq_true.1 h3 f hf)
        refine ⟨_, hk, fun hv r β vx vy hx hy => ?_⟩
        obtain ⟨cs, rfl, hcs⟩ := hx.aggL_inv
        obtain ⟨ds, rfl, hds⟩ := hy.aggL_inv
        refine ⟨fun ox oy w => run_eqGuard_agg w _ t ox oy _ _ h2, _, .bool, fun w => ?_⟩
        rw [run_neq_struct, run_equalIn_agg w 9999 t _ _ (by rw [hf]; exact hu) h1, hf, hb r β cs ds hcs hds w]
        rfl
      · exact h.elim
  · obtain ⟨sv, hk, hr⟩ := evBin_sound h
    refine ⟨sv, hk, fun hv r β vx vy hx hy => ⟨fun ox oy w => ?_, hr hv r β vx vy hx hy⟩⟩
    unfold evBin at h
    split at h
    · cases hx; cases hy; unfold eqGuard; split <;> rfl
    · cases hx; cases hy; unfold eqGuard; split <;> rfl
    · cases hx; cases hy; unfold eqGuard; split <;> rfl
    · exact h.elim
end Go.Vc

namespace Go.Vc
set_option autoImplicit false
set_option linter.unusedVariables false
set_option linter.unusedSimpArgs false

theorem decKeyK_sound {κ : KTy} {x : SV} {K : κ.T → Prop} (h : decKeyK κ x K) : ∃ k, K k ∧ ∀ r β v, Rel r β x v → v = κ.val k := by
  cases κ with
  | s =>
    cases x <;> try exact h.elim
    exact ⟨_, h, fun r β v hv => by cases hv; rfl⟩
  | i k =>
    cases x <;> try exact h.elim
    rename_i k' n
    simp only [decKeyK] at h
    cases hk : kEq k k' with
    | false => rw [hk] at h; exact h.elim
    | true => rw [hk] at h; obtain rfl := kEq_of hk; exact ⟨_, h, fun r β v hv => by cases hv; rfl⟩
  | p => cases x <;> exact h.elim

/-- the kind of a key's type -/
def kindOf : KTy → TypeDesc → Prop
  | .s, d => d = .string
  | .i k, d => d = .int k
  | .p, _ => False
theorem keyTyOk_spec {P : Program} {kt : TypeId} {κ : KTy} (h : keyTyOk P kt κ = true) : ∃ d, P.underlying kt = some d ∧ kindOf κ d := by
  cases κ with
  | s =>
    simp only [keyTyOk] at h
    split at h
    · exact ⟨_, by assumption, rfl⟩
    · cases h
  | i k =>
    simp only [keyTyOk] at h
    split at h
    · exact ⟨_, by assumption, by rw [kEq_of h]; rfl⟩
    · cases h
  | p => cases h
theorem kbeq_iff {κ : KTy} (a b : κ.T) : κ.beq a b = true ↔ a = b := by
  cases κ with
  | s => simp [KTy.beq]
  | i k => simp [KTy.beq]
  | p => simp [KTy.beq]
theorem ba_beq (a b : List UInt8) : ((⟨a.toArray⟩ : ByteArray) == ⟨b.toArray⟩) = (a == b) := by
  show (a.toArray == b.toArray) = (a == b)
  simp
theorem sameNow_eq {κ : KTy} {d : TypeDesc} (h : kindOf κ d) (a b : κ.T) : Instr.sameNow d (κ.val a) (κ.val b) = some (κ.beq a b) := by
  cases κ with
  | s =>
    cases h
    simp only [Instr.sameNow, KTy.val, KTy.beq]
    congr 1
    rw [ba_beq]
  | i k => cases h; simp [Instr.sameNow, KTy.val, KTy.beq]
  | p => cases h
theorem sameBits_self {κ : KTy} {d : TypeDesc} (h : kindOf κ d) (a : κ.T) : Instr.sameBits 10000 (κ.val a) (κ.val a) = true := by
  cases κ with
  | s => simp [Instr.sameBits, KTy.val, ba_beq]
  | i k => simp [Instr.sameBits, KTy.val]
  | p => cases h

theorem find_sound {κ : KTy} {d : TypeDesc} (hd : kindOf κ d) {α : Type} (k : κ.T) : ∀ (l : List (κ.T × α)) (es : List MapEntry) (i0 : Nat), es.length = l.length →
    (∀ (i : Nat) k' v e, l[i]? = some (k', v) → es[i]? = some e → e.key = κ.val k') →
    (mget κ l k = none ∧ Instr.findNow d (κ.val k) es i0 = some none ∧ ∀ a, mset κ l k a = l ++ [(k, a)]) ∨
    ∃ j v e, l[j]? = some (k, v) ∧ mget κ l k = some v ∧ es[j]? = some e ∧ Instr.findNow d (κ.val k) es i0 = some (some (i0 + j, e.val)) ∧ ∀ a, mset κ l k a = l.set j (k, a) := by
  intro l
  induction l with
  | nil =>
    intro es i0 hl _
    have : es = [] := List.length_eq_zero_iff.1 hl
    subst this
    exact .inl ⟨rfl, rfl, fun a => rfl⟩
  | cons x l ih =>
    intro es i0 hl hk
    obtain ⟨k', v⟩ := x
    match es, hl with
    | e :: es, hl =>
      have h0 := hk 0 k' v e rfl rfl
      simp only [Instr.findNow, h0, sameNow_eq hd]
      cases hb : κ.beq k k' with
      | true =>
        obtain rfl := (kbeq_iff k k').1 hb
        exact .inr ⟨0, v, e, rfl, by simp [mget, hb], rfl, rfl, fun a => by simp [mset, hb]⟩
      | false =>
        rcases ih es (i0 + 1) (by simpa using hl) (fun i k1 v1 e1 q1 q2 => hk (i + 1) k1 v1 e1 (by simpa using q1) (by simpa using q2)) with ⟨a1, a2, a3⟩ | ⟨j, v1, e1, a1, a2, a3, a4, a5⟩
        · exact .inl ⟨by simp [mget, hb, a1], a2, fun a => by simp [mset, hb, a3]⟩
        · exact .inr ⟨j + 1, v1, e1, by simpa using a1, by simp [mget, hb, a2], by simpa using a3, by rw [a4, Nat.add_assoc, Nat.add_comm 1 j], fun a => by simp [mset, hb, a5]⟩

theorem run_checkKey {P : Program} {κ : KTy} {d : TypeDesc} {kt : TypeId} (hu : P.underlying kt = some d) (hd : kindOf κ d) (b : Bool) (k : κ.T) (w : World) : (Instr.checkKey b 10000 kt (κ.val k)).run P w = .ok () w := by
  rw [show (10000 : Nat) = 9999 + 1 from rfl, Instr.checkKey]
  cases κ with
  | s => cases hd; simp [run_underlying hu, KTy.val]
  | i k => cases hd; simp [run_underlying hu, KTy.val]
  | p => cases hd
theorem run_findKey {P : Program} {κ : KTy} {d : TypeDesc} {kt : TypeId} (hu : P.underlying kt = some d) {k : κ.T} {es : List MapEntry} {x : Option (Nat × Value)} (h : Instr.findNow d (κ.val k) es 0 = some x) (w : World) :
    (Instr.findKey kt (κ.val k) es).run P w = .ok x w := by
  simp [Instr.findKey, run_underlying hu, h]

theorem zero1K_sound {P : Program} {t : TypeId} {K : SV → Prop} (h : zero1K P t K) :
    ∃ sv z, K sv ∧ sv.okIds (fun _ => false) = true ∧ (∀ w, (zeroValue t).run P w = .ok z w) ∧ ∀ r β, Rel r β sv z := by
  unfold zero1K at h
  split at h
  · rename_i i hi
    split at h
    · rename_i z hz
      obtain ⟨sv, hk, hid, hr⟩ := constK_sound h
      exact ⟨sv, z, hk, hid, fun w => by simp [zeroValue, typeInfo, hi, hz], hr⟩
    · exact h.elim
  · exact h.elim

theorem oneK_sound {l : List SV} {K : SV → Prop} (h : oneK l K) : ∃ sv, l = [sv] ∧ K sv := by
  unfold oneK at h
  split at h
  · exact ⟨_, rfl, h⟩
  · exact h.elim
theorem enc_pure : ∀ (τ : Ty) (x : τ.T) (j : Nat) (sv : SV), (τ.enc x)[j]? = some sv → sv.okIds (fun _ => false) = true := by
  intro τ
  induction τ with
  | pr a b iha ihb =>
    intro x j sv h
    simp only [Ty.enc] at h
    rw [List.getElem?_append] at h
    split at h
    · exact iha _ _ _ h
    · exact ihb _ _ _ h
  | _ => intro x j sv h; cases j <;> simp [Ty.enc] at h; subst h; rfl

theorem evLookup_sound {B : Base} {Φ t x i ok} {K : SV → Prop} (h : evLookup B Φ t x i ok K) :
    ∃ sv, K sv ∧ ∀ r β vx vi, Rel r β x vx → Rel r β i vi → ∀ w, MemSat r β Φ w → ∃ v, Rel r β sv v ∧ (Instr.lookup t vx vi ok).run B.P w = .ok v w := by
  unfold evLookup at h
  split at h
  · rename_i kt e id hu
    split at h
    · rename_i κ τ l hg
      cases hko : keyTyOk B.P kt κ with
      | false => rw [hko] at h; exact h.elim
      | true =>
        rw [hko] at h
        obtain ⟨d, hud, hd⟩ := keyTyOk_spec hko
        obtain ⟨k, h, hkey⟩ := decKeyK_sound h
        obtain ⟨z, zv, h, _, hzrun, hzrel⟩ := zero1K_sound h
        obtain ⟨dv, h, hent⟩ := dec1K_sound h
        obtain ⟨sv, hsv, h⟩ := oneK_sound h
        have main : ∀ r β vx vi, Rel r β (.mref id) vx → Rel r β i vi → ∀ w, MemSat r β Φ w → ∃ v, Rel r β sv v ∧ (Instr.lookup t vx vi ok).run B.P w = .ok (bif ok then .tuple #[v, .bool (mget κ l k).isSome] else v) w := by
          intro r β vx vi hx hi w m
          obtain rfl := hkey _ _ _ hi
          cases hx with
          | mref hβ =>
          rename_i b
          have hs := m.chs _ _ hg
          cases hs with
          | mp hxb hw hl hk hv hb hn =>
          rename_i b' es clock
          rw [hβ] at hxb
          obtain rfl : b = b' := by simpa using hxb
          rcases find_sound hd k l es.toList 0 (by simpa using hl) (fun i k' v e q1 q2 => hk i k' v e q1 (by simpa using q2)) with ⟨a1, a2, a3⟩ | ⟨j, v, e1, a1, a2, a3, a4, a5⟩
          · rw [a1] at hsv
            have hsv : τ.enc dv = [sv] := hsv
            rw [hsv] at hent
            refine ⟨zv, (hent.2 0 z sv rfl rfl).1 _ _ _ (hzrel r β), ?_⟩
            simp only [Instr.lookup, Sem.run_bind, run_underlying hu, Result.andThen_ok, Go.MapKept.run_getObj_map hw, Sem.run_pure, run_checkKey hud hd, run_findKey hud a2, hzrun, a1]
            cases ok <;> rfl
          · rw [a2] at hsv
            have hsv : τ.enc v = [sv] := hsv
            obtain ⟨sv', p1, p2, p3⟩ := hv j k v e1 a1 (by simpa using a3)
            rw [hsv] at p1
            obtain rfl : sv = sv' := by simpa using p1
            refine ⟨e1.val, p3.pure (enc_pure τ v 0 sv (by rw [hsv]; rfl)) β, ?_⟩
            simp only [Instr.lookup, Sem.run_bind, run_underlying hu, Result.andThen_ok, Go.MapKept.run_getObj_map hw, Sem.run_pure, run_checkKey hud hd, run_findKey hud a4, a2]
            cases ok <;> rfl
        cases ok with
        | false =>
          refine ⟨sv, h, fun r β vx vi hx hi w m => ?_⟩
          obtain ⟨v, h1, h2⟩ := main r β vx vi hx hi w m
          exact ⟨v, h1, h2⟩
        | true =>
          refine ⟨_, h, fun r β vx vi hx hi w m => ?_⟩
          obtain ⟨v, h1, h2⟩ := main r β vx vi hx hi w m
          refine ⟨.tuple #[v, .bool (mget κ l k).isSome], .tup (cs := [v, .bool (mget κ l k).isSome]) rfl (fun i sv v h3 h4 => ?_), h2⟩
          match i with
          | 0 => simp at h3 h4; subst h3; subst h4; exact h1
          | 1 => simp at h3 h4; subst h3; subst h4; exact .bool
          | i + 2 => simp at h3
    · exact h.elim
  · exact h.elim
end Go.Vc

namespace Go.Vc
set_option autoImplicit false
set_option linter.unusedVariables false
set_option linter.unusedSimpArgs false

/-- the rows of a new block that does not change any more -/
theorem new_lits {P : Program} {e : TypeId} {ln : Nat} {rows : List (List SV)} {us : Array Value} {r : Mem} {β : Bind} {b0 : Nat} (h1 : rows.length = ln) (hrow : ∀ (i : Nat) row, rows[i]? = some row → row.length = sizeT P e) (hsz : sizeT P e ≠ 0) (hble : ln * sizeT P e ≤ 16777216)
    (hone : ∀ (i : Nat) row (j : Nat) sv, rows[i]? = some row → row[j]? = some sv → sv.one = true ∧ sv.okIds (fun _ => false) = true) (hus : us.size = ln * sizeT P e)
    (hrel : ∀ (i : Nat) row (j : Nat) sv v, rows[i]? = some row → row[j]? = some sv → us[i * sizeT P e + j]? = some v → Rel r β0 sv v) (hb : r b0 = some (.cells us e (0, 0))) :
    Rel r β (.lits (sizeT P e) rows) (.slice (some ⟨b0, 0, none⟩) ln ln) := by
  by_cases hl0 : ln = 0
  · subst hl0
    have : rows = [] := List.length_eq_zero_iff.1 h1
    subst this
    exact .litsE
  · have hle : ln ≤ ln * sizeT P e := Nat.le_mul_of_pos_right ln (by omega)
    have := Rel.lits (r := r) (β := β) (sz := sizeT P e) (rows := rows) (b := b0) (off := 0) (cap := ln) hb (by rw [h1]; omega) (by omega) hrow (fun i row j sv q1 q2 => (hone i row j sv q1 q2).1)
      (by rw [h1, hus]; omega) (fun i row j sv v q1 q2 q3 => hrel i row j sv v q1 q2 (by rw [Nat.zero_add] at q3; exact q3))
    rw [h1] at this
    exact this

theorem buildRdK_sound {B : Base} {σ ctx t ln parts} {K : SV → Prop} (h : buildRdK B σ ctx t ln parts K) :
    ∃ sv, K sv ∧ ∀ p r β (a : Act) g Φ w, (∀ y ∈ parts, Has p y.2) → Sm p r β σ a.tmps ctx g → MemSat r β Φ w →
      ∃ v w', (Instr.buildSlice t ln (parts.map fun (i, x) => (i, a.eval x)).toArray).run B.P w = .ok v w' ∧ Quiet r β Φ w sv v w' := by
  unfold buildRdK at h
  split at h
  · rename_i e ht
    have go : ∀ {K : List (List SV) → Prop}, rowsOfK B.P σ ctx e ln parts K → ∃ rows, K rows ∧ ∀ p r β (a : Act) g Φ w, (∀ y ∈ parts, Has p y.2) → Sm p r β σ a.tmps ctx g → MemSat r β Φ w →
        ∃ v w', (Instr.buildSlice t ln (parts.map fun (i, x) => (i, a.eval x)).toArray).run B.P w = .ok v w' ∧ Quiet r β Φ w (.lits (sizeT B.P e) rows) v w' := by
      intro K h
      obtain ⟨rows, hk, h1, h2, h3, h4, h5, h6⟩ := rowsOfK_sound h
      refine ⟨rows, hk, fun p r β a g Φ w hP sm m => ?_⟩
      obtain ⟨us, hus, hrun, hrel⟩ := h6 p r β a g hP sm
      obtain ⟨hle, hm, hid⟩ := mem_grow m (.cells us e)
      refine ⟨_, _, hrun t w ht, _, ?_, hle, hm, hid⟩
      exact new_lits h1 h2 h3 h4 h5 hus (fun i row j sv v q1 q2 q3 => (hrel i row j sv v q1 q2 q3).mono hle) (by simp [Nat.beq_refl])
    split at h
    · rename_i τ hty
      cases hz : szOk B.P e τ.size with
      | false => rw [hz] at h; exact h.elim
      | true =>
        rw [hz] at h
        obtain ⟨rows, h, hq⟩ := go h
        obtain ⟨l, hk, hl⟩ := decRowsK_sound (fun _ _ h => decK_sound h) h
        refine ⟨_, hk, fun p r β a g Φ w hP sm m => ?_⟩
        obtain ⟨v, w', g1, r', g2, g3⟩ := hq p r β a g Φ w hP sm m
        exact ⟨v, w', g1, r', hl.lits (szOk_spec hz).1 g2, g3⟩
    · obtain ⟨rows, hk, hq⟩ := go h
      exact ⟨_, hk, hq⟩
  · exact h.elim

/-- an operation that touches no memory: one value, in whatever world -/
theorem evK_float {B : Base} {Φ σ ctx g ung op} {K : SV → Prop} (hfl : floats op = true) (h : evK B Φ σ ctx g ung op K) :
    ∃ sv, K sv ∧ ∀ p r β a, (∀ x ∈ op.operands.toList, Has p x) → Sm p r β σ (Act.tmps a) ctx g → ∀ dst ty pos after guard, ∃ v, Rel r β sv v ∧ ∀ w, (execOp a.eval ⟨dst, op, ty, pos, after, guard⟩).run B.P w = .ok (.value v) w := by
  unfold evK at h
  split at h
  · -- move
    obtain ⟨sv, hk, hr⟩ := opK_sound h
    exact ⟨sv, hk, fun p r β a hP sm dst ty pos after guard => ⟨_, hr p r β a g (hP _ (by simp [Op.operands])) sm, fun w => rfl⟩⟩
  · obtain ⟨sv, hk, hr⟩ := opK_sound h
    exact ⟨sv, hk, fun p r β a hP sm dst ty pos after guard => ⟨_, hr p r β a g (hP _ (by simp [Op.operands])) sm, fun w => rfl⟩⟩
  · -- pick
    obtain ⟨sv, hk, hr⟩ := evPick_sound h
    refine ⟨sv, hk, fun p r β a hP sm dst ty pos after guard => ?_⟩
    obtain ⟨v, hv, hw⟩ := hr p r β a g (hP _ (by simp [Op.operands])) (hP _ (by simp [Op.operands])) (hP _ (by simp [Op.operands])) sm
    exact ⟨v, hv, fun w => hw _ _ _ _ _ _ _⟩
  · -- binOp
    rename_i op t x y t'
    obtain ⟨sx, h, hx⟩ := opK_sound h
    obtain ⟨sy, h, hy⟩ := opK_sound h
    obtain ⟨sv, hk, hr⟩ := evBinB_sound h
    refine ⟨sv, hk, fun p r β a hP sm dst ty pos after guard => ?_⟩
    have hpx := hP x (by simp [Op.operands])
    have hpy := hP y (by simp [Op.operands])
    obtain ⟨hgd, v, hv, hw⟩ := hr sm.valid r β _ _ (hx p r β a g hpx sm) (hy p r β a g hpy sm)
    refine ⟨v, hv, fun w => ?_⟩
    simp only [execOp, Sem.run_bind, hgd x y w, Result.andThen_ok, hw w, Sem.run_pure]
  · -- unOp
    obtain ⟨sx, h, hx⟩ := opK_sound h
    obtain ⟨sv, hk, hr⟩ := evUn_sound (P := B.P) h
    refine ⟨sv, hk, fun p r β a hP sm dst ty pos after guard => ?_⟩
    obtain ⟨v, hv, hw⟩ := hr sm.valid r β _ (hx p r β a g (hP _ (by simp [Op.operands])) sm)
    exact ⟨v, hv, fun w => by simp only [execOp, Sem.run_bind, hw w, Result.andThen_ok, Sem.run_pure]⟩
  · -- convert
    obtain ⟨sx, h, hx⟩ := opK_sound h
    obtain ⟨sv, hk, hr⟩ := evConv_sound (P := B.P) h
    refine ⟨sv, hk, fun p r β a hP sm dst ty pos after guard => ?_⟩
    obtain ⟨v, hv, hw⟩ := hr sm.valid r β _ (hx p r β a g (hP _ (by simp [Op.operands])) sm)
    exact ⟨v, hv, fun w => by simp only [execOp, Sem.run_bind, hw w, Result.andThen_ok, Sem.run_pure]⟩
  · -- index
    obtain ⟨sx, h, hx⟩ := opK_sound h
    obtain ⟨si, h, hi⟩ := opK_sound h
    obtain ⟨sv, hk, hr⟩ := evIndex_sound h
    refine ⟨sv, hk, fun p r β a hP sm dst ty pos after guard => ?_⟩
    obtain ⟨v, hv, hw⟩ := hr sm.valid r β _ _ (hx p r β a g (hP _ (by simp [Op.operands])) sm) (hi p r β a g (hP _ (by simp [Op.operands])) sm)
    exact ⟨v, hv, fun w => by simp only [execOp, Sem.run_bind, hw w, Result.andThen_ok, Sem.run_pure]⟩
  · -- slice
    rename_i t x lo hi
    obtain ⟨sx, h, hx⟩ := opK_sound h
    obtain ⟨slo, h, hlo⟩ := loK_sound h
    obtain ⟨shi, h, hhi⟩ := loK_sound h
    obtain ⟨sv, hk, hr⟩ := evSlice_sound h
    refine ⟨sv, hk, fun p r β a hP sm dst ty pos after guard => ?_⟩
    have conv : ∀ (x : Option Operand) (y : Option Int), OptEv a x y → OptIs y (x.map a.eval) := by
      intro x y h; cases x <;> cases y <;> first | exact h | trivial
    obtain ⟨v, hv, hw⟩ := hr sm.valid r β _ _ _ (hx p r β a g (hP _ (by simp [Op.operands])) sm) (conv _ _ (hlo p r β a g (fun o ho => hP _ (by simp [Op.operands, ho])) sm)) (conv _ _ (hhi p r β a g (fun o ho => hP _ (by simp [Op.operands, ho])) sm))
    exact ⟨v, hv, fun w => by simp only [execOp, Option.map_none, Sem.run_bind, hw w, Result.andThen_ok, Sem.run_pure]⟩
  · -- field
    obtain ⟨sx, h, hx⟩ := opK_sound h
    obtain ⟨sv, hk, hr⟩ := evField_sound h
    refine ⟨sv, hk, fun p r β a hP sm dst ty pos after guard => ?_⟩
    obtain ⟨v, hv, hw⟩ := hr r β _ (hx p r β a g (hP _ (by simp [Op.operands])) sm)
    exact ⟨v, hv, fun w => by simp only [execOp, Sem.run_bind, hw w, Result.andThen_ok, Sem.run_pure]⟩
  · cases hfl
  · -- fieldAddr
    obtain ⟨sx, h, hx⟩ := opK_sound h
    obtain ⟨sv, hk, hr⟩ := evFieldAddr_sound h
    refine ⟨sv, hk, fun p r β a hP sm dst ty pos after guard => ?_⟩
    obtain ⟨v, hv, hw⟩ := hr r β _ (hx p r β a g (hP _ (by simp [Op.operands])) sm)
    exact ⟨v, hv, fun w => by simp only [execOp, Sem.run_bind, hw w, Result.andThen_ok, Sem.run_pure]⟩
  · cases hfl
  · -- extract
    rename_i x i
    obtain ⟨sx, h, hx⟩ := opK_sound h
    cases sx <;> simp only at h
    rename_i l
    split at h
    · rename_i sv hn
      rw [nth_eq] at hn
      refine ⟨sv, h, fun p r β a hP sm dst ty pos after guard => ?_⟩
      have hv := hx p r β a g (hP _ (by simp [Op.operands])) sm
      generalize hq : a.eval x = v at hv
      cases hv with
      | tup hl hr =>
        rename_i cs
        have hlt : i < cs.length := by
          rcases Nat.lt_or_ge i l.length with h | h
          · omega
          · rw [List.getElem?_eq_none h] at hn; cases hn
        have hc : cs[i]? = some cs[i] := List.getElem?_eq_getElem hlt
        refine ⟨cs[i], hr _ _ _ hn hc, fun w => ?_⟩
        simp [execOp, hq, Instr.extract, hlt]
    · exact h.elim
  · cases hfl
  · cases hfl
  · cases hfl
  · cases hfl
  · -- nilCheck
    rename_i x
    obtain ⟨sx, h, hx⟩ := opK_sound h
    unfold evNil at h
    split at h
    · refine ⟨_, h, fun p r β a hP sm dst ty pos after guard => ?_⟩
      have hv := hx p r β a g (hP _ (by simp [Op.operands])) sm
      refine ⟨_, hv, fun w => ?_⟩
      generalize hq : a.eval x = v at hv
      cases hv
      simp only [execOp, hq]; rfl
    · refine ⟨_, h, fun p r β a hP sm dst ty pos after guard => ?_⟩
      have hv := hx p r β a g (hP _ (by simp [Op.operands])) sm
      refine ⟨_, hv, fun w => ?_⟩
      generalize hq : a.eval x = v at hv
      cases hv
      simp only [execOp, hq]; rfl
    · refine ⟨_, h, fun p r β a hP sm dst ty pos after guard => ?_⟩
      have hv := hx p r β a g (hP _ (by simp [Op.operands])) sm
      refine ⟨_, hv, fun w => ?_⟩
      generalize hq : a.eval x = v at hv
      cases hv
      simp only [execOp, hq]; rfl
    · exact h.elim
  · cases hfl
  · cases hfl
  · exact h.elim

theorem evK_sound {B : Base} {Φ σ ctx g ung op} {K : SV → Prop} (h : evK B Φ σ ctx g ung op K)
    (hp : ung = true → ∃ p r β a w, (∀ x ∈ op.operands.toList, Has p x) ∧ Sm p r β σ (Act.tmps a) ctx g ∧ MemSat r β Φ w) :
    ∃ sv, K sv ∧ (∀ c, op ≠ .defer c) ∧ ∀ p r β a w0, (∀ x ∈ op.operands.toList, Has p x) → Sm p r β σ (Act.tmps a) ctx g → B.G r → MemSat r β Φ w0 → ∀ dst ty pos after guard, OpTo B.P a w0 ⟨dst, op, ty, pos, after, guard⟩ (Quiet r β Φ w0 sv) := by
  cases hfl : floats op with
  | true =>
    obtain ⟨sv, hk, hr⟩ := evK_float hfl h
    refine ⟨sv, hk, (fun c hc => by subst hc; cases hfl), fun p r β a w0 hP sm hG m dst ty pos after guard => ?_⟩
    obtain ⟨v, hv, hw⟩ := hr p r β a hP sm dst ty pos after guard
    exact .val v w0 (hw w0) (Quiet.same m hv)
  | false =>
  unfold evK at h
  split at h
  · cases hfl
  · cases hfl
  · cases hfl
  · cases hfl
  · cases hfl
  · cases hfl
  · cases hfl
  · cases hfl
  · cases hfl
  · -- load
    obtain ⟨sx, h, hx⟩ := opK_sound h
    obtain ⟨sv, hk, hr⟩ := evLoad_sound h
    refine ⟨sv, hk, (fun c hc => by cases hc), fun p r β a w0 hP sm hG m dst ty pos after guard => ?_⟩
    obtain ⟨v, hv, hw⟩ := hr sm.valid r β _ (hx p r β a g (hP _ (by simp [Op.operands])) sm) w0 m
    exact .val v w0 (by simp only [execOp, Sem.run_bind, hw w0 (Near.refl m), Result.andThen_ok, Sem.run_pure]) (Quiet.same m hv)
  · cases hfl
  · -- indexAddr
    obtain ⟨sx, h, hx⟩ := opK_sound h
    obtain ⟨si, h, hi⟩ := opK_sound h
    obtain ⟨sv, hk, hr⟩ := evIndexAddr_sound h
    refine ⟨sv, hk, (fun c hc => by cases hc), fun p r β a w0 hP sm hG m dst ty pos after guard => ?_⟩
    obtain ⟨v, hv, hw⟩ := hr sm.valid r β _ _ (hx p r β a g (hP _ (by simp [Op.operands])) sm) (hi p r β a g (hP _ (by simp [Op.operands])) sm) w0 m
    exact .val v w0 (by simp only [execOp, Sem.run_bind, hw w0, Result.andThen_ok, Sem.run_pure]) (Quiet.same m hv)
  · cases hfl
  · -- build
    rename_i t parts
    obtain ⟨sv, hk, hr⟩ := evBuild_sound h
    refine ⟨sv, hk, (fun c hc => by cases hc), fun p r β a w0 hP sm hG m dst ty pos after guard => ?_⟩
    obtain ⟨v, hv, hw⟩ := hr p r β a g (fun y hy => hP _ (by simp only [Op.operands]; exact List.mem_map.2 ⟨y, hy, rfl⟩)) sm
    refine .val v w0 ?_ (Quiet.same m hv)
    have : (Array.map (fun (x : Nat × Operand) => (x.1, a.eval x.2)) ⟨parts⟩) = (parts.map fun (i, x) => (i, a.eval x)).toArray := by simp
    simp only [execOp, Sem.run_bind]
    rw [this, hw w0]; rfl
  · -- makeFunc
    rename_i f caps
    obtain ⟨l, hk, h1, h2⟩ := opsK_sound h
    refine ⟨_, hk, (fun c hc => by cases hc), fun p r β a w0 hP sm hG m dst ty pos after guard => ?_⟩
    have hl := evalL h1 (h2 p r β a g (fun x hx => hP _ (by simpa [Op.operands] using hx)) sm)
    refine .val (.func (.func f) #[] (caps.map a.eval).toArray) w0 ?_ (Quiet.same m (.fn hl.1 hl.2))
    simp [execOp, Instr.makeFunc]
  · -- builtin
    rename_i b xs ts
    have hops : ∀ x, x ∈ xs → x ∈ (Op.operands (.call ⟨.builtin b, ⟨xs⟩, ⟨ts⟩⟩)).toList := fun x hx => by simp [Op.operands, Call.operands, hx]
    obtain ⟨l, h, h1, h2⟩ := opsK_sound h
    obtain ⟨sv, hk, hr⟩ := evBuiltin_sound h (fun hu => by
      obtain ⟨p, r, β, a, w, hP, sm, m⟩ := hp hu
      exact ⟨r, β, xs.map a.eval, w, evalL h1 (h2 p r β a g (fun x hx => hP _ (hops x hx)) sm), m⟩)
    refine ⟨sv, hk, (fun c hc => by cases hc), fun p r β a w0 hP sm hG m dst ty pos after guard => ?_⟩
    obtain ⟨v, hv, hw⟩ := hr r β _ (evalL h1 (h2 p r β a g (fun x hx => hP _ (hops x hx)) sm))
    refine .val v w0 ?_ (Quiet.same m hv)
    have := hw w0 ty (Array.map (fun | .const _ => true | _ => false) (⟨xs⟩ : Array Operand)) m
    simp only [execOp, resolve, Sem.run_bind, Sem.run_pure, Result.andThen_ok, invoke]
    rw [show Array.map a.eval ⟨xs⟩ = (xs.map a.eval).toArray by simp]
    exact this
  · -- a call
    rename_i f xs ts
    have hops : ∀ x, x ∈ xs → x ∈ (Op.operands (.call ⟨.value f, ⟨xs⟩, ts⟩)).toList := fun x hx => by simp [Op.operands, Call.operands, hx]
    have hopf : f ∈ (Op.operands (.call ⟨.value f, ⟨xs⟩, ts⟩)).toList := by simp [Op.operands, Call.operands]
    obtain ⟨fv, h, hf⟩ := opK_sound h
    cases fv <;> simp only at h
    rename_i fid caps
    obtain ⟨l, h, h1, h2⟩ := opsK_sound h
    have h := appK_sound h
    obtain ⟨sv, hk, hr⟩ := call_sound h
    refine ⟨sv, hk, (fun c hc => by cases hc), fun p r β a w0 hP sm hG m dst ty pos after guard => ?_⟩
    have hfv := hf p r β a g (hP _ hopf) sm
    generalize hq : a.eval f = v at hfv
    cases hfv with
    | fn hl hc =>
      rename_i cs
      refine hr sm.valid r β w0 (xs.map a.eval ++ cs) a _ hG m ((evalL h1 (h2 p r β a g (fun x hx => hP _ (hops x hx)) sm)).append ⟨hl, hc⟩) fun w => ?_
      simp only [execOp, resolve, hq, Deferred.ofValue, Sem.run_bind, Sem.run_pure, Result.andThen_ok, invoke]
      congr 2
      simp
  · cases hfl
  · -- lookup
    obtain ⟨sx, h, hx⟩ := opK_sound h
    obtain ⟨si, h, hi⟩ := opK_sound h
    obtain ⟨sv, hk, hr⟩ := evLookup_sound h
    refine ⟨sv, hk, (fun c hc => by cases hc), fun p r β a w0 hP sm hG m dst ty pos after guard => ?_⟩
    obtain ⟨v, hv, hw⟩ := hr r β _ _ (hx p r β a g (hP _ (by simp [Op.operands])) sm) (hi p r β a g (hP _ (by simp [Op.operands])) sm) w0 m
    exact .val v w0 (by simp only [execOp, Sem.run_bind, hw, Result.andThen_ok, Sem.run_pure]) (Quiet.same m hv)
  · -- a slice, written out
    rename_i t ln parts
    obtain ⟨sv, hk, hr⟩ := buildRdK_sound h
    refine ⟨sv, hk, (fun c hc => by cases hc), fun p r β a w0 hP sm hG m dst ty pos after guard => ?_⟩
    obtain ⟨v, w', h1, h2⟩ := hr p r β a g Φ w0 (fun y hy => hP _ (by simp only [Op.operands]; exact List.mem_map.2 ⟨y, hy, rfl⟩)) sm m
    refine .val v w' ?_ h2
    have : (Array.map (fun (x : Nat × Operand) => (x.1, a.eval x.2)) ⟨parts⟩) = (parts.map fun (i, x) => (i, a.eval x)).toArray := by simp
    simp only [execOp, Sem.run_bind]
    rw [this, h1]; rfl
  · exact h.elim

end Go.Vc

namespace Go.Vc
set_option autoImplicit false
set_option linter.unusedVariables false

/-- the headers that never turn, have not -/
def Keep (β : Bind) (Φ : Phi) (β' : Bind) (Φ' : Phi) : Prop := ∀ id ch, Phi.get Φ id = some ch → ch.kind ≠ 0 → β' id = β id ∧ ∃ ch', Phi.get Φ' id = some ch' ∧ ch'.kind = ch.kind
theorem Keep.refl (β Φ) : Keep β Φ β Φ := fun _ ch h _ => ⟨rfl, ch, h, rfl⟩
theorem Keep.trans {β Φ β' Φ' β2 Φ2} (h : Keep β Φ β' Φ') (k : Keep β' Φ' β2 Φ2) : Keep β Φ β2 Φ2 := fun id ch h0 hk => by
  obtain ⟨q1, ch1, q2, q3⟩ := h id ch h0 hk
  obtain ⟨p1, ch2, p2, p3⟩ := k id ch1 q2 (by rw [q3]; exact hk)
  exact ⟨p1.trans q1, ch2, p2, p3.trans q3⟩
/-- the marks among a frame's deferred calls, and their blocks -/
def Marks (r : Mem) (β : Bind) (Φ : Phi) (w : World) (lo : Nat) (ds : List Deferred) : Prop :=
  ∃ Ds : List Nat, ds = Ds.map (fun D => { target := .collected D, args := #[] }) ∧ Ds.Nodup ∧
    ∀ D ∈ Ds, lo ≤ D ∧ w.heap[D]? = some (.deferred (some [])) ∧ r D = none ∧ ∀ id ch, Phi.get Φ id = some ch → ch.blk (β id) ≠ some D
theorem Marks.step {r β Φ w lo ds r' β' Φ' w'} (h : Marks r β Φ w lo ds) (hid : Hid r β Φ w r' β' Φ' w') : Marks r' β' Φ' w' lo ds := by
  obtain ⟨Ds, h1, h2, h3⟩ := h
  refine ⟨Ds, h1, h2, fun D hD => ?_⟩
  obtain ⟨g1, g2, g3, g4⟩ := h3 D hD
  obtain ⟨k1, k2, k3⟩ := hid.block D (lt_of_get g2) g3 g4
  exact ⟨g1, k1.trans g2, k2, k3⟩

/-- where a function was entered -/
structure Entry where
  r : Mem
  β : Bind
  Φ : Phi
  w : World

structure Sat (B : Base) (e : Entry) (N : Nat) (r : Mem) (β : Bind) (σ : Env) (Φ : Phi) (a : Act) (w : World) : Prop where
  agree : Agree r β σ a.tmps
  mem : MemSat r β Φ w
  G : B.G r
  le : e.r.le r
  hid : Hid e.r e.β e.Φ e.w r β Φ w
  defers : Marks r β Φ w e.w.heap.size a.defers
  size : a.tmps.size = N
/-- a step that turns no slot -/
theorem Sat.step {B : Base} {e N r β σ Φ a w} (s : Sat B e N r β σ Φ a w) {r' β' σ' Φ' w'} (ha : Agree r' β' σ' a.tmps) (m : MemSat r' β' Φ' w') (hle : r.le r') (hid : Hid r β Φ w r' β' Φ' w') : Sat B e N r' β' σ' Φ' a w' :=
  ⟨ha, m, B.mono _ _ hle s.G, Mem.le_trans s.le hle, s.hid.trans hid, s.defers.step hid, s.size⟩

theorem put_some (a : Act) (d : Nat) (v : Value) : (a.put (some d) v).tmps = a.tmps.setIfInBounds d v := rfl
theorem put_defers (a : Act) (d : Option Nat) (v : Value) : (a.put d v).defers = a.defers := by cases d <;> rfl
theorem put_size (a : Act) (d : Option Nat) (v : Value) : (a.put d v).tmps.size = a.tmps.size := by cases d <;> simp [Act.put]

theorem get_cons (k : Nat) (g sv) (σ : Env) (j : Nat) : Env.get ((k, g, sv) :: σ) j = bif Nat.beq k j then some (g, sv) else Env.get σ j := rfl

/-- the guards' slots are among these -/
def GdIn (D : List Nat) (σ : Env) : Prop := ∀ k s w sv, Env.get σ k = some (some (s, w), sv) → s ∈ D

theorem Agree.put {r β σ t D} (h : Agree r β σ t) (hgd : GdIn D σ) {d : Nat} {gd : Option (Nat × Bool)} {sv : SV} {v : Value} (hd : d ∉ D) (hlt : d < t.size)
    (hv : match gd with | none => Rel r β sv v | some (s, w) => s ≠ d ∧ (t[s]? = some (.bool w) → Rel r β sv v) ∧ (t[s]? ≠ some (.bool w) → v = undef)) :
    Agree r β ((d, gd, sv) :: σ) (t.setIfInBounds d v) := by
  have self : (t.setIfInBounds d v)[d]? = some v := by rw [Array.getElem?_setIfInBounds_self_of_lt hlt]
  have other : ∀ k, k ≠ d → (t.setIfInBounds d v)[k]? = t[k]? := fun k hk => Array.getElem?_setIfInBounds_ne (Ne.symm hk)
  intro k g sv' hg
  rw [get_cons] at hg
  cases hb : Nat.beq d k with
  | true =>
    obtain rfl := beq_of hb
    rw [hb] at hg
    simp only [cond_true, Option.some.injEq, Prod.mk.injEq] at hg
    obtain ⟨rfl, rfl⟩ := hg
    cases gd with
    | none => exact ⟨v, self, hv⟩
    | some p =>
      obtain ⟨s, w⟩ := p
      obtain ⟨h1, h2, h3⟩ := hv
      refine ⟨fun hs => ⟨v, self, h2 (by rw [← other s h1]; exact hs)⟩, fun hs => ?_⟩
      rw [self, h3 (by rw [← other s h1]; exact hs)]
  | false =>
    rw [hb] at hg
    simp only [cond_false] at hg
    have hk : k ≠ d := by
      rintro rfl
      have : Nat.beq k k = true := Nat.beq_refl k
      rw [this] at hb; cases hb
    have := h k g sv' hg
    cases g with
    | none => obtain ⟨u, h1, h2⟩ := this; exact ⟨u, by rw [other k hk]; exact h1, h2⟩
    | some p =>
      obtain ⟨s, w⟩ := p
      have hs : s ≠ d := by rintro rfl; exact hd (hgd _ _ _ _ hg)
      simp only [EntSat, other k hk, other s hs] at this ⊢
      exact this

theorem Agree.none {r β σ t} (h : Agree r β σ t) {t' : Array Value} (ht : t' = t) : Agree r β σ t' := by subst ht; exact h

theorem GdIn.put {D σ d gd sv} (h : GdIn D σ) (hg : ∀ s w, gd = some (s, w) → s ∈ D) (d' : List Nat) : GdIn (D ++ d') ((d, gd, sv) :: σ) := by
  intro k s w sv' hk
  rw [get_cons] at hk
  cases hb : Nat.beq d k with
  | true =>
    rw [hb] at hk
    simp only [cond_true, Option.some.injEq, Prod.mk.injEq] at hk
    exact List.mem_append.2 (.inl (hg _ _ hk.1))
  | false => rw [hb] at hk; exact List.mem_append.2 (.inl (h _ _ _ _ hk))
theorem GdIn.more {D σ} (h : GdIn D σ) (d : List Nat) : GdIn (D ++ d) σ := fun k s w sv hk => List.mem_append.2 (.inl (h k s w sv hk))

def dsts (l : List Oper) : List Nat := l.filterMap (·.dst)

theorem freshE_get {n : Nat} {σ : Env} (h : freshE n σ = true) (k : Nat) (g sv) (hg : Env.get σ k = some (g, sv)) : sv.okIds (fun i => !Nat.beq i n) = true := by
  induction σ with
  | nil => simp [Env.get] at hg
  | cons x r ih =>
    obtain ⟨k', g', sv'⟩ := x
    simp only [freshE, Bool.and_eq_true] at h
    rw [get_cons] at hg
    cases hb : Nat.beq k' k with
    | true => rw [hb] at hg; simp at hg; rw [← hg.2]; exact h.1
    | false => rw [hb] at hg; exact ih h.2 hg
theorem phi_cons (k : Nat) (c : Chunk) (Φ : Phi) (j : Nat) : Phi.get ((k, c) :: Φ) j = bif Nat.beq k j then some c else Phi.get Φ j := rfl
theorem freshP_get {n : Nat} {Φ : Phi} (h : freshP n Φ = true) (k : Nat) (ch) (hg : Phi.get Φ k = some ch) : k ≠ n ∧ freshC n ch = true := by
  induction Φ with
  | nil => simp [Phi.get] at hg
  | cons x r ih =>
    obtain ⟨k', c'⟩ := x
    simp only [freshP, Bool.and_eq_true] at h
    rw [phi_cons] at hg
    cases hb : Nat.beq k' k with
    | true =>
      rw [hb] at hg
      simp at hg
      subst hg
      obtain rfl := beq_of hb
      refine ⟨?_, h.2.1⟩
      rintro rfl
      rw [Nat.beq_refl] at h
      simp at h
    | false => rw [hb] at hg; exact ih h.2.2 hg

def setB (β : Bind) (n : Nat) (v : Value) : Bind := fun i => bif Nat.beq i n then v else β i
theorem setB_self (β n v) : setB β n v n = v := by simp [setB]
theorem setB_ne {β : Bind} {n : Nat} {v : Value} {i : Nat} (h : i ≠ n) : setB β n v i = β i := by simp [setB, nbeq_of h]
theorem setB_ok {β : Bind} {n : Nat} {v : Value} (i : Nat) (h : (!Nat.beq i n) = true) : setB β n v i = β i := by
  refine setB_ne ?_
  rintro rfl
  rw [Nat.beq_refl] at h; cases h

theorem heap_alloc_lt {w : World} {o : Obj} {b : Nat} (h : b < w.heap.size) : ({ w with heap := w.heap.push o } : World).heap[b]? = w.heap[b]? := by
  show (w.heap.push o)[b]? = _
  rw [Array.getElem?_push, if_neg (by omega)]
theorem heap_alloc_eq {w : World} {o : Obj} : ({ w with heap := w.heap.push o } : World).heap[w.heap.size]? = some o := by
  show (w.heap.push o)[w.heap.size]? = _
  simp
theorem lt_of_heap {w : World} {b : Nat} {o : Obj} (h : w.heap[b]? = some o) : b < w.heap.size := lt_of_get h

/-- nothing that was there has turned -/
structure Grows (w w' : World) : Prop where
  os : w'.os = w.os
  tape : w'.tape = w.tape
  output : w'.output = w.output
  size : w.heap.size ≤ w'.heap.size
  old : ∀ b, b < w.heap.size → w'.heap[b]? = w.heap[b]?

theorem Grows.alloc (w : World) (o : Obj) : Grows w { w with heap := w.heap.push o } :=
  ⟨rfl, rfl, rfl, by show w.heap.size ≤ (w.heap.push o).size; simp, fun b hb => heap_alloc_lt hb⟩

theorem Agree.of {r r' β β' σ σ' t} (h : Agree r β σ t) (hσ : ∀ k g sv', Env.get σ' k = some (g, sv') → ∃ sv, Env.get σ k = some (g, sv) ∧ ∀ v, Rel r β sv v → Rel r' β' sv' v) : Agree r' β' σ' t := by
  intro k g sv' hg
  obtain ⟨sv, q1, q2⟩ := hσ k g sv' hg
  have := h k g sv q1
  cases g with
  | none => obtain ⟨u, p1, p2⟩ := this; exact ⟨u, p1, q2 u p2⟩
  | some p => obtain ⟨s', w''⟩ := p; exact ⟨fun hs => by obtain ⟨u, p1, p2⟩ := this.1 hs; exact ⟨u, p1, q2 u p2⟩, this.2⟩

/-- a new chunk, bound to a new id -/
theorem mem_new {r β Φ w} {n : Nat} {ch : Chunk} {v : Value} {w' : World} (m : MemSat r β Φ w) (hΦ : freshP n Φ = true)
    (hg : Grows w w') (hblk : ∀ b, ch.blk v = some b → w.heap.size ≤ b) (hch : ch.Sat r (setB β n v) w' v) : MemSat r (setB β n v) ((n, ch) :: Φ) w' ∧ Hid r β Φ w r (setB β n v) ((n, ch) :: Φ) w' := by
  have old : ∀ id c, Phi.get Φ id = some c → setB β n v id = β id := fun id c h => setB_ne (freshP_get hΦ id c h).1
  have alive : ∀ id c b, Phi.get Φ id = some c → c.blk (β id) = some b → b < w.heap.size := fun id c b h1 h2 => (m.chs _ _ h1).alive h2
  have get : ∀ id c, Phi.get ((n, ch) :: Φ) id = some c → (id = n ∧ c = ch) ∨ (id ≠ n ∧ Phi.get Φ id = some c) := by
    intro id c h
    rw [phi_cons] at h
    cases hb : Nat.beq n id with
    | true => obtain rfl := beq_of hb; rw [hb] at h; simp at h; exact .inl ⟨rfl, h.symm⟩
    | false => rw [hb] at h; exact .inr ⟨(fun he => by (subst he; rw [Nat.beq_refl] at hb; cases hb)), h⟩
  refine ⟨⟨fun b o' h => ?_, fun id c h => ?_, fun id c b h1 h2 => ?_, fun id id' c c' b h1 h1' h2 h2' => ?_⟩,
    hg.os, hg.tape, hg.output, hg.size, fun b hb h1 h2 => ⟨hg.old _ hb, h1, fun id c h hc => ?_⟩, fun id c h _ => ⟨old id c h, c, ?_, rfl⟩⟩
  · have := m.vis _ _ h
    rw [hg.old _ (lt_of_heap this)]; exact this
  · rcases get id c h with ⟨rfl, rfl⟩ | ⟨_, h⟩
    · rw [setB_self]; exact hch
    · rw [old id c h]
      refine (m.chs _ _ h).keep (Mem.le_refl r) (fun b hb => hg.old _ (alive _ _ _ h hb)) (fun cells he i sv v hi hr => ?_)
      have := (freshP_get hΦ id c h).2
      subst he
      exact hr.bind (p := fun i => !Nat.beq i n) (fun i hi => setB_ok i hi) (SV.okIdsL_get this i sv hi)
  · rcases get id c h1 with ⟨rfl, rfl⟩ | ⟨_, h⟩
    · rw [setB_self] at h2
      have := hblk _ h2
      cases hr : r b with
      | none => rfl
      | some o' => exact absurd (lt_of_heap (m.vis _ _ hr)) (by omega)
    · rw [old id c h] at h2; exact m.sep _ _ _ h h2
  · rcases get id c h1 with ⟨rfl, rfl⟩ | ⟨_, h⟩ <;> rcases get id' c' h1' with ⟨rfl, rfl⟩ | ⟨_, h'⟩
    · rfl
    · rw [setB_self] at h2; rw [old id' c' h'] at h2'
      have := hblk _ h2
      exact absurd (alive _ _ _ h' h2') (by omega)
    · rw [setB_self] at h2'; rw [old id c h] at h2
      have := hblk _ h2'
      exact absurd (alive _ _ _ h h2) (by omega)
    · rw [old id c h] at h2; rw [old id' c' h'] at h2'
      exact m.nod _ _ _ _ _ h h' h2 h2'
  · rcases get id c h with ⟨rfl, rfl⟩ | ⟨_, h⟩
    · rw [setB_self] at hc; have := hblk _ hc; omega
    · rw [old id c h] at hc; exact h2 id c h hc
  · rw [phi_cons]
    cases hb : Nat.beq n id with
    | true => obtain rfl := beq_of hb; exact absurd rfl (freshP_get hΦ n _ h).1
    | false => exact h

theorem sat_new {B : Base} {e N r β σ Φ a w} {n : Nat} {ch : Chunk} {v : Value} {w' : World} (s : Sat B e N r β σ Φ a w) (hσ : freshE n σ = true) (hΦ : freshP n Φ = true)
    (hg : Grows w w') (hblk : ∀ b, ch.blk v = some b → w.heap.size ≤ b) (hch : ch.Sat r (setB β n v) w' v) : Sat B e N r (setB β n v) σ ((n, ch) :: Φ) a w' := by
  obtain ⟨h1, h2⟩ := mem_new s.mem hΦ hg hblk hch
  refine s.step (s.agree.of fun k g sv hk => ⟨sv, hk, fun v hr => hr.bind (p := fun i => !Nat.beq i n) (fun i hi => setB_ok i hi) (freshE_get hσ k g sv hk)⟩) h1 (Mem.le_refl r) h2

theorem newK_sound {B : Base} {e N r β σ Φ a w n cs} {K : EK} (h : newK n cs σ Φ K) (s : Sat B e N r β σ Φ a w) (T : TypeId) (vs : Array Value) (hl : RelL r β cs vs.toList) :
    ∃ sv σ' Φ' n', K sv σ' Φ' n' ∧ σ' = σ ∧ ∃ β', Rel r β' sv (.pointer (some ⟨w.heap.size, 0, none⟩)) ∧ Sat B e N r β' σ' Φ' a { w with heap := w.heap.push (.cells vs T) } := by
  unfold newK at h
  cases hc : (freshE n σ && (freshP n Φ && SV.okIdsL (fun i => !Nat.beq i n) cs)) with
  | false => rw [hc] at h; exact h.elim
  | true =>
    rw [hc] at h
    simp only [Bool.and_eq_true] at hc
    obtain ⟨h1, h2, h3⟩ := hc
    refine ⟨_, _, _, _, h, rfl, setB β n (.pointer (some ⟨w.heap.size, 0, none⟩)), .loc (setB_self _ _ _), ?_⟩
    refine sat_new s h1 h2 (Grows.alloc w _) (fun b hb => by simp [Chunk.blk] at hb; omega) ?_
    refine .box rfl heap_alloc_eq (by simpa using hl.1) fun i sv v q1 q2 => ?_
    exact (hl.2 i sv v q1 (by simpa using q2)).bind (p := fun i => !Nat.beq i n) (fun i hi => setB_ok i hi) (SV.okIdsL_get h3 i sv q1)

theorem newChK_sound {B : Base} {e N r β σ Φ a w n ch sv} {K : EK} (h : newChK n ch sv σ Φ K) (s : Sat B e N r β σ Φ a w) {v : Value} {w' : World} (hg : Grows w w')
    (hblk : ∀ b, ch.blk v = some b → w.heap.size ≤ b) (hch : ch.Sat r (setB β n v) w' v) (hr : Rel r (setB β n v) sv v) :
    ∃ sv σ' Φ' n', K sv σ' Φ' n' ∧ σ' = σ ∧ ∃ β', Rel r β' sv v ∧ Sat B e N r β' σ' Φ' a w' := by
  unfold newChK at h
  cases hc : (freshE n σ && freshP n Φ) with
  | false => rw [hc] at h; exact h.elim
  | true =>
    rw [hc] at h
    simp only [Bool.and_eq_true] at hc
    exact ⟨_, _, _, _, h, rfl, _, hr, sat_new s hc.1 hc.2 hg hblk hch⟩

end Go.Vc

namespace Go.Vc
set_option autoImplicit false
set_option linter.unusedVariables false

theorem hasId_of {Φ : Phi} {i : Nat} {c : Chunk} (h : Phi.get Φ i = some c) : hasId Φ i = true := by simp [hasId, h]
theorem blk_box' (cs cs' : List SV) (x : Value) : (Chunk.box cs).blk x = (Chunk.box cs').blk x := by
  cases x <;> first | rfl | (rename_i a; cases a <;> rfl)
theorem setPK_sound {id : Nat} {ch : Chunk} {Φ : Phi} : ∀ {K : Phi → Prop}, setPK id ch Φ K → hasId Φ id = true →
    ∃ Φ', K Φ' ∧ ∀ j, Phi.get Φ' j = bif Nat.beq id j then some ch else Phi.get Φ j := by
  induction Φ with
  | nil => intro K h hi; simp [hasId, Phi.get] at hi
  | cons x r ih =>
    obtain ⟨k, c⟩ := x
    intro K h hi
    unfold setPK at h
    cases hb : Nat.beq k id with
    | true =>
      rw [hb] at h
      obtain rfl := beq_of hb
      refine ⟨_, h, fun j => ?_⟩
      rw [phi_cons, phi_cons]
      cases Nat.beq k j <;> rfl
    | false =>
      rw [hb] at h
      have hi' : hasId r id = true := by
        unfold hasId at hi ⊢
        rw [phi_cons, hb] at hi
        exact hi
      obtain ⟨Φ', hk, hg⟩ := ih h hi'
      refine ⟨_, hk, fun j => ?_⟩
      rw [phi_cons, phi_cons, hg]
      cases hq : Nat.beq k j with
      | false => rfl
      | true =>
        obtain rfl := beq_of hq
        have : Nat.beq id k = false := nbeq_of (fun he => by subst he; rw [Nat.beq_refl] at hb; cases hb)
        rw [this]; rfl

/-- one block has turned -/
structure Turns (w w' : World) (g : Nat) : Prop where
  os : w'.os = w.os
  tape : w'.tape = w.tape
  output : w'.output = w.output
  size : w'.heap.size = w.heap.size
  old : ∀ b, b ≠ g → w'.heap[b]? = w.heap[b]?

/-- a chunk is written; its header stays -/
theorem mem_upd {r β Φ w} {id g : Nat} {ch ch' : Chunk} {w' : World} {Φ' : Phi} (m : MemSat r β Φ w) (hid : Phi.get Φ id = some ch)
    (hΦ : ∀ j, Phi.get Φ' j = bif Nat.beq id j then some ch' else Phi.get Φ j) (hw : Turns w w' g) (hg : ch.blk (β id) = some g)
    (hb : ch'.blk (β id) = ch.blk (β id)) (hch : ch'.Sat r β w' (β id)) (hkd : ch'.kind = ch.kind) : MemSat r β Φ' w' ∧ Hid r β Φ w r β Φ' w' := by
  have get : ∀ j c, Phi.get Φ' j = some c → (j = id ∧ c = ch') ∨ (j ≠ id ∧ Phi.get Φ j = some c) := by
    intro j c h
    rw [hΦ] at h
    cases hq : Nat.beq id j with
    | true => obtain rfl := beq_of hq; rw [hq] at h; simp at h; exact .inl ⟨rfl, h.symm⟩
    | false => rw [hq] at h; exact .inr ⟨(fun he => by (subst he; rw [Nat.beq_refl] at hq; cases hq)), h⟩
  have blk : ∀ j c b, Phi.get Φ' j = some c → c.blk (β j) = some b → ∃ c0, Phi.get Φ j = some c0 ∧ c0.blk (β j) = some b := by
    intro j c b h1 h2
    rcases get j c h1 with ⟨rfl, rfl⟩ | ⟨_, h⟩
    · exact ⟨ch, hid, by rw [← hb]; exact h2⟩
    · exact ⟨c, h, h2⟩
  refine ⟨⟨fun b o h => ?_, fun j c h => ?_, fun j c b h1 h2 => ?_, fun j j' c c' b h1 h1' h2 h2' => ?_⟩,
    hw.os, hw.tape, hw.output, by rw [hw.size]; exact Nat.le_refl _, fun b hb' p1 p2 => ⟨hw.old b (fun he => p2 _ _ hid (he ▸ hg)), p1, fun j c h hc => ?_⟩, fun j c h hk => ⟨rfl, ?_⟩⟩
  · have hne : b ≠ g := by
      rintro rfl
      rw [m.sep _ _ _ hid hg] at h; cases h
    rw [hw.old b hne]; exact m.vis _ _ h
  · rcases get j c h with ⟨rfl, rfl⟩ | ⟨hne, h⟩
    · exact hch
    · refine (m.chs _ _ h).keep (Mem.le_refl r) (fun b hb' => hw.old b ?_) (fun _ _ _ _ _ _ h => h)
      rintro rfl
      exact hne (m.nod _ _ _ _ _ h hid hb' hg)
  · obtain ⟨c0, q1, q2⟩ := blk _ _ _ h1 h2
    exact m.sep _ _ _ q1 q2
  · obtain ⟨c0, q1, q2⟩ := blk _ _ _ h1 h2
    obtain ⟨c1, q1', q2'⟩ := blk _ _ _ h1' h2'
    exact m.nod _ _ _ _ _ q1 q1' q2 q2'
  · obtain ⟨c0, q1, q2⟩ := blk _ _ _ h hc
    exact p2 _ _ q1 q2
  · rw [hΦ]
    cases hq : Nat.beq id j with
    | true =>
      obtain rfl := beq_of hq
      rw [hid] at h
      cases h
      exact ⟨ch', rfl, hkd⟩
    | false => exact ⟨c, h, rfl⟩
theorem sat_upd {B : Base} {e N r β σ Φ a w} {id g : Nat} {ch ch' : Chunk} {w' : World} {Φ' : Phi} (s : Sat B e N r β σ Φ a w) (hid : Phi.get Φ id = some ch)
    (hΦ : ∀ j, Phi.get Φ' j = bif Nat.beq id j then some ch' else Phi.get Φ j) (hw : Turns w w' g) (hg : ch.blk (β id) = some g)
    (hb : ch'.blk (β id) = ch.blk (β id)) (hch : ch'.Sat r β w' (β id)) (hkd : ch'.kind = ch.kind) : Sat B e N r β σ Φ' a w' := by
  obtain ⟨h1, h2⟩ := mem_upd s.mem hid hΦ hw hg hb hch hkd
  exact s.step s.agree h1 (Mem.le_refl r) h2

theorem run_storeCells {P : Program} (g o : Nat) (t : TypeId) (fr : Nat × Nat) : ∀ (vs : List Value) (i : Nat) (cur : Array Value) (w : World), w.heap[g]? = some (.cells cur t fr) →
    o + i + vs.length ≤ cur.size → (∀ v ∈ vs, v.oneCell' = true) → (∀ j, j < cur.size → ¬ (fr.1 ≤ j ∧ j < fr.2)) →
    ∃ cur' w', (storeCells ⟨g, o, none⟩ vs i).run P w = .ok () w' ∧ w'.heap[g]? = some (.cells cur' t fr) ∧ Turns w w' g ∧ cur'.size = cur.size ∧
      ∀ j : Nat, cur'[j]? = if o + i ≤ j ∧ j < o + i + vs.length then vs[j - (o + i)]? else cur[j]? := by
  intro vs
  induction vs with
  | nil =>
    intro i cur w hg _ _ _
    exact ⟨cur, w, rfl, hg, ⟨rfl, rfl, rfl, rfl, fun _ _ => rfl⟩, rfl, fun j => by rw [if_neg (by simp)]⟩
  | cons v rest ih =>
    intro i cur w hg hl h1 hfr
    have hi : o + i < cur.size := by simp at hl; omega
    have hcell : w.cell? ⟨g, o + i, none⟩ = some cur[o + i] := by simp [World.cell?, hg, hi]
    have hfro : w.frozen? ⟨g, o + i, none⟩ = false := by
      simp only [World.frozen?, hg]
      have := hfr _ hi
      simpa using fun h => Nat.le_of_not_lt fun h2 => this ⟨h, h2⟩
    have hst : (store ((⟨g, o, none⟩ : Addr).add i) v).run P w = .ok () (w.setCell ⟨g, o + i, none⟩ v) := by
      rw [add_mk, run_store P w _ v _ (h1 v (by simp)), hcell]
      simp [hfro]
    have hg' : (w.setCell ⟨g, o + i, none⟩ v).heap[g]? = some (.cells (cur.setIfInBounds (o + i) v) t fr) := by
      simp only [World.setCell, Array.getElem?_modify, hg, if_true]
      rfl
    have hT : Turns w (w.setCell ⟨g, o + i, none⟩ v) g := by
      refine ⟨rfl, rfl, rfl, by simp [World.setCell], fun b hb => ?_⟩
      simp only [World.setCell, Array.getElem?_modify]
      rw [if_neg (fun h => hb h.symm)]
    obtain ⟨cur', w', hr, q1, q2, q3, q4⟩ := ih (i + 1) (cur.setIfInBounds (o + i) v) (w.setCell ⟨g, o + i, none⟩ v) hg' (by simp at hl ⊢; omega) (fun x hx => h1 x (by simp [hx])) (by simpa using hfr)
    refine ⟨cur', w', ?_, q1, ⟨q2.os.trans hT.os, q2.tape.trans hT.tape, q2.output.trans hT.output, q2.size.trans hT.size, fun b hb => (q2.old b hb).trans (hT.old b hb)⟩, by simpa using q3, fun j => ?_⟩
    · simp only [storeCells, Sem.run_bind, hst, Result.andThen_ok, hr]
    · rw [q4]
      simp only [List.length_cons]
      by_cases hj : o + (i + 1) ≤ j ∧ j < o + (i + 1) + rest.length
      · rw [if_pos hj, if_pos (by omega), show j - (o + i) = (j - (o + (i + 1))) + 1 by omega, List.getElem?_cons_succ]
      · rw [if_neg hj]
        by_cases hj2 : j = o + i
        · subst hj2
          rw [if_pos (by omega), Array.getElem?_setIfInBounds_self_of_lt hi]
          simp
        · rw [if_neg (by omega), Array.getElem?_setIfInBounds_ne (by omega)]

theorem RelL.ones {r β l vs} (h : RelL r β l vs) (ho : allOne l = true) : ∀ v ∈ vs, v.oneCell' = true := by
  intro v hv
  obtain ⟨i, hi, rfl⟩ := List.getElem_of_mem hv
  have hil : i < l.length := by have := h.1; omega
  have h1 : l[i]? = some l[i] := List.getElem?_eq_getElem hil
  exact (h.2 i _ _ h1 (List.getElem?_eq_getElem hi)).oneCell (allOne_get ho i _ h1)

theorem storeK_sound {B : Base} {e N r β σ Φ a w n t} {p x : SV} {vp vx : Value} {K : EK} (h : storeK B.P t p x σ Φ n K) (s : Sat B e N r β σ Φ a w) (hp : Rel r β p vp) (hx : Rel r β x vx) :
    ∃ sv Φ' w', K sv σ Φ' n ∧ (Instr.storeAt t vp vx).run B.P w = .ok () w' ∧ sv = .und ∧ Sat B e N r β σ Φ' a w' := by
  unfold storeK at h
  obtain ⟨xs, h, ho, _, hxs⟩ := cellsK_sound h
  have hvx := hxs r β vx hx
  cases hz : Nat.beq (sizeT B.P t) 0 with
  | true => rw [hz] at h; exact h.elim
  | false =>
  rw [hz] at h
  cases hz2 : Nat.beq (len xs) (sizeT B.P t) with
  | false => rw [hz2] at h; exact h.elim
  | true =>
  rw [hz2] at h
  simp only [cond_true, cond_false] at h
  have hlen := beq_of hz2
  rw [len_eq] at hlen
  obtain ⟨i, hi⟩ : ∃ i, B.P.info? t = some i := by
    unfold sizeT at hz
    cases hq : B.P.info? t with
    | none => rw [hq] at hz; cases hz
    | some i => exact ⟨i, rfl⟩
  have hsz : vx.cells.size = i.size := by
    have := hvx.1
    rw [sizeT_run hi] at hlen
    simp at this
    omega
  have hone := hvx.ones ho
  have run : ∀ {b o w'}, (storeCells ⟨b, o, none⟩ vx.cells.toList 0).run B.P w = .ok () w' → (Instr.storeAt t (.pointer (some ⟨b, o, none⟩)) vx).run B.P w = .ok () w' := by
    intro b o w' hr
    simp only [Instr.storeAt, Sem.run_bind, Instr.sureAddr, Sem.run_pure, Result.andThen_ok, storeVar, run_sizeOf hi, hsz, ne_eq, not_true_eq_false, if_false, hr]
  split at h
  · rename_i id off _
    split at h
    · rename_i cs hg
      obtain ⟨l, h, h1, h2, h3⟩ := fillAt_sound h
      obtain ⟨Φ', hk, hΦ⟩ := setPK_sound h (hasId_of hg)
      cases hp with
      | loc hβ =>
        rename_i b
        have hs := s.mem.rows hg
        cases hs with
        | box hxb hw hl hc =>
          rename_i b' c T
          rw [hβ] at hxb
          obtain rfl : b = b' := by simpa using hxb
          have hx0 : xs ≠ [] := by intro h0; subst h0; simp at hlen; rw [← hlen] at hz; cases hz
          have hfit := h2 hx0
          obtain ⟨cur', w', hr, q1, q2, q3, q4⟩ := run_storeCells (P := B.P) b off T (0, 0) vx.cells.toList 0 c w hw (by have := hvx.1; omega) hone (by intro j _; omega)
          refine ⟨_, Φ', w', hk, run hr, rfl, sat_upd s hg hΦ q2 (by rw [hβ]; rfl) (blk_box' _ _ _) ?_ rfl⟩
          refine .box hβ q1 (by rw [q3, hl, h1]) fun j sv v p1 p2 => ?_
          rw [h3] at p1
          rw [q4] at p2
          have hvl := hvx.1
          simp only [Nat.add_zero] at p2
          by_cases hj : off ≤ j ∧ j < off + xs.length
          · rw [if_pos hj] at p1
            rw [if_pos (by omega)] at p2
            exact hvx.2 _ _ _ p1 p2
          · rw [if_neg hj] at p1
            rw [if_neg (by omega)] at p2
            exact hc _ _ _ p1 p2
    · exact h.elim
  · rename_i id sz0 i' off _
    split at h
    · rename_i τ l hg
      cases hc0 : (Nat.beq sz0 τ.size && SV.okIdsL (fun _ => false) xs) with
      | false => rw [hc0] at h; exact h.elim
      | true =>
        rw [hc0] at h
        simp only [Bool.and_eq_true] at hc0
        obtain ⟨hc1, hc2⟩ := hc0
        have hsz0 := beq_of hc1
        obtain ⟨hob, h⟩ := h
        have hil := hob.h
        obtain ⟨row, h, h1, h2, h3⟩ := fillAt_sound h
        obtain ⟨a', h, hent⟩ := dec1K_sound h
        obtain ⟨Φ', hk, hΦ⟩ := setPK_sound h (hasId_of hg)
        cases hp with
        | oel hβ =>
          rename_i b off0 n0 cap
          rw [hsz0]
          have hs := s.mem.rows hg
          cases hs with
          | own hs =>
            rcases hs with ⟨a0, _, he⟩ | ⟨b', off', cap', c, T, fr, he, hcap0, hw, hfr, hm, hcap, hszc, hrow, hone', hrr⟩
            · simp at he; subst he; simp at hil
            · rw [he] at hβ
              simp only [Value.slice.injEq, Option.some.injEq, Addr.mk.injEq] at hβ
              obtain ⟨⟨rfl, rfl, _⟩, _, _⟩ := hβ
              have hx0 : xs ≠ [] := by intro h0; subst h0; simp at hlen; rw [← hlen] at hz; cases hz
              have hfit := h2 hx0
              have hg0 : l.getD i' τ.dflt = l[i'] := by simp [List.getD, List.getElem?_eq_getElem hil]
              have hrl : (τ.enc (l.getD i' τ.dflt)).length = τ.size := hrow i' _ (by rw [hg0]; simp [List.getElem?_eq_getElem hil])
              rw [hrl] at hfit
              have hbnd : off' + i' * τ.size + τ.size ≤ c.size := by
                have h1 : (i' + 1) * τ.size ≤ cap' * τ.size := Nat.mul_le_mul_right τ.size (by simp at hcap; omega)
                rw [Nat.add_mul] at h1
                omega
              obtain ⟨cur', w', hr, q1, q2, q3, q4⟩ := run_storeCells (P := B.P) b' (off' + i' * τ.size + off) T fr vx.cells.toList 0 c w hw (by have := hvx.1; omega) hone (hfr.cell)
              refine ⟨_, Φ', w', hk, run hr, rfl, sat_upd s hg hΦ q2 (blk_own he hcap0) (by rw [blk_own he hcap0, blk_own he hcap0]) ?_ rfl⟩
              refine .own (.inr ⟨b', off', cap', cur', T, fr, by rw [he]; simp, hcap0, q1, hfr.turn q3, by simpa using hm, by simpa using hcap, by rw [q3]; exact hszc, ?_, ?_, ?_⟩)
              · intro k row' hk'
                simp only [List.getElem?_map, List.getElem?_set] at hk'
                by_cases hki : i' = k
                · subst hki
                  rw [if_pos rfl, if_pos hil] at hk'
                  simp at hk'
                  rw [← hk', enc_len]
                · rw [if_neg hki] at hk'
                  exact hrow k row' (by simpa using hk')
              · intro k row' j sv hk' hj
                simp only [List.getElem?_map, List.getElem?_set] at hk'
                by_cases hki : i' = k
                · subst hki
                  rw [if_pos rfl, if_pos hil] at hk'
                  simp at hk'
                  rw [← hk'] at hj
                  exact enc_one τ a' j sv hj
                · rw [if_neg hki] at hk'
                  exact hone' k row' j sv (by simpa using hk') hj
              · intro k row' j sv v hk' hj hv
                have hvl := hvx.1
                rw [q4] at hv
                simp only [Nat.add_zero] at hv
                simp only [List.getElem?_map, List.getElem?_set] at hk'
                by_cases hki : i' = k
                · subst hki
                  rw [if_pos rfl, if_pos hil] at hk'
                  simp at hk'
                  rw [← hk'] at hj
                  have hjl : j < row.length := by
                    have := hent.1
                    rcases Nat.lt_or_ge j row.length with h' | h'
                    · exact h'
                    · rw [List.getElem?_eq_none (by omega)] at hj; cases hj
                  refine (hent.2 j row[j] sv (List.getElem?_eq_getElem hjl) hj).1 _ _ _ ?_
                  have hj0 := h3 j
                  rw [List.getElem?_eq_getElem hjl] at hj0
                  by_cases hjj : off ≤ j ∧ j < off + xs.length
                  · rw [if_pos hjj] at hj0
                    rw [if_pos (by omega)] at hv
                    have e : off' + i' * τ.size + j - (off' + i' * τ.size + off) = j - off := by omega
                    rw [e] at hv
                    exact (hvx.2 _ _ _ hj0.symm hv).pure (SV.okIdsL_get hc2 _ _ hj0.symm) _
                  · rw [if_neg hjj] at hj0
                    rw [if_neg (by omega)] at hv
                    exact hrr i' _ j _ v (by rw [hg0]; simp [List.getElem?_eq_getElem hil]) hj0.symm hv
                · rw [if_neg hki] at hk'
                  have hjs : j < τ.size := by
                    have := hrow k row' (by simpa using hk')
                    rcases Nat.lt_or_ge j row'.length with h | h
                    · omega
                    · rw [List.getElem?_eq_none h] at hj; cases hj
                  have hne : ¬ (off' + i' * τ.size + off ≤ off' + k * τ.size + j ∧ off' + k * τ.size + j < off' + i' * τ.size + off + vx.cells.toList.length) := by
                    rintro ⟨g1, g2⟩
                    rcases Nat.lt_or_gt_of_ne hki with hlt | hgt
                    · have : (i' + 1) * τ.size ≤ k * τ.size := Nat.mul_le_mul_right τ.size hlt
                      rw [Nat.add_mul] at this; omega
                    · have : (k + 1) * τ.size ≤ i' * τ.size := Nat.mul_le_mul_right τ.size hgt
                      rw [Nat.add_mul] at this; omega
                  rw [if_neg hne] at hv
                  exact hrr k row' j sv v (by simpa using hk') hj hv
    · exact h.elim
  · exact h.elim

end Go.Vc

namespace Go.Vc
set_option autoImplicit false
set_option linter.unusedVariables false

/-- the second says no more than the first, and does not name id -/
def Stale (id : Nat) (sv sv' : SV) : Prop := sv' = .und ∨ (sv' = sv ∧ sv.okIds (fun i => !Nat.beq i id) = true)

theorem staleS_sound {id sv} {K : SV → Prop} (h : staleS id sv K) : ∃ sv', K sv' ∧ Stale id sv sv' := by
  unfold staleS at h
  cases hb : sv.okIds (fun i => !Nat.beq i id) with
  | true => rw [hb] at h; exact ⟨_, h, .inr ⟨rfl, hb⟩⟩
  | false => rw [hb] at h; exact ⟨_, h, .inl rfl⟩
theorem staleL_sound {id : Nat} {l : List SV} : ∀ {K : List SV → Prop}, staleL id l K → ∃ l', K l' ∧ l'.length = l.length ∧ ∀ (i : Nat) (sv' : SV), l'[i]? = some sv' → ∃ sv, l[i]? = some sv ∧ Stale id sv sv' := by
  induction l with
  | nil => intro K h; exact ⟨[], h, rfl, fun i sv' h => by simp at h⟩
  | cons x r ih =>
    intro K h
    obtain ⟨y, h, hy⟩ := staleS_sound h
    obtain ⟨l', h, h1, h2⟩ := ih h
    refine ⟨_, h, by simp [h1], fun i sv' hi => ?_⟩
    cases i with
    | zero => simp at hi; subst hi; exact ⟨x, rfl, hy⟩
    | succ i => obtain ⟨sv, q1, q2⟩ := h2 i sv' (by simpa using hi); exact ⟨sv, by simpa using q1, q2⟩
theorem staleE_sound {id : Nat} {σ : Env} : ∀ {K : Env → Prop}, staleE id σ K → ∃ σ', K σ' ∧ ∀ k g sv', Env.get σ' k = some (g, sv') → ∃ sv, Env.get σ k = some (g, sv) ∧ Stale id sv sv' := by
  induction σ with
  | nil => intro K h; exact ⟨[], h, fun k g sv' h => by simp [Env.get] at h⟩
  | cons x r ih =>
    obtain ⟨k0, g0, sv0⟩ := x
    intro K h
    obtain ⟨y, h, hy⟩ := staleS_sound h
    obtain ⟨σ', h, h2⟩ := ih h
    refine ⟨_, h, fun k g sv' hi => ?_⟩
    rw [get_cons] at hi ⊢
    cases hb : Nat.beq k0 k with
    | true => rw [hb] at hi; simp at hi; obtain ⟨rfl, rfl⟩ := hi; exact ⟨sv0, rfl, hy⟩
    | false => rw [hb] at hi; exact h2 k g sv' hi
inductive StaleC (id : Nat) : Chunk → Chunk → Prop
  | same {c} (h : ∀ cs, c ≠ .box cs) : StaleC id c c
  | box {cs cs'} (hl : cs'.length = cs.length) (h : ∀ (i : Nat) (sv' : SV), cs'[i]? = some sv' → ∃ sv, cs[i]? = some sv ∧ Stale id sv sv') : StaleC id (.box cs) (.box cs')
theorem staleP_sound {id : Nat} {Φ : Phi} : ∀ {K : Phi → Prop}, staleP id Φ K → ∃ Φ', K Φ' ∧ ∀ j, (∀ c', Phi.get Φ' j = some c' → ∃ c, Phi.get Φ j = some c ∧ StaleC id c c') ∧ (∀ c, Phi.get Φ j = some c → ∃ c', Phi.get Φ' j = some c') := by
  induction Φ with
  | nil => intro K h; exact ⟨[], h, fun j => ⟨fun c' h => by simp [Phi.get] at h, fun c h => by simp [Phi.get] at h⟩⟩
  | cons x r ih =>
    obtain ⟨k, c⟩ := x
    intro K h
    have : ∃ c', StaleC id c c' ∧ staleP id r fun l => K ((k, c') :: l) := by
      unfold staleP at h
      cases c with
      | box cs => obtain ⟨l', h, h1, h2⟩ := staleL_sound h; exact ⟨_, .box h1 h2, h⟩
      | own τ l => exact ⟨_, .same (by intro cs h; cases h), h⟩
      | ro => exact ⟨_, .same (by intro cs h; cases h), h⟩
      | iter s pos => exact ⟨_, .same (by intro cs h; cases h), h⟩
      | mp κ τ l => exact ⟨_, .same (by intro cs h; cases h), h⟩
    obtain ⟨c', hc, h⟩ := this
    obtain ⟨Φ', h, hg⟩ := ih h
    refine ⟨_, h, fun j => ?_⟩
    rw [phi_cons, phi_cons]
    cases hb : Nat.beq k j with
    | true => exact ⟨fun c1 h => by simp at h; subst h; exact ⟨c, rfl, hc⟩, fun c1 h => ⟨c', rfl⟩⟩
    | false => exact hg j

theorem Stale.rel {id sv sv'} (h : Stale id sv sv') {r β v} (hr : Rel r β sv v) (v' : Value) : Rel r (setB β id v') sv' v := by
  rcases h with rfl | ⟨rfl, ho⟩
  · exact .und
  · exact hr.bind (p := fun i => !Nat.beq i id) (fun i hi => setB_ok i hi) ho

theorem StaleC.blk {id c c'} (h : StaleC id c c') (x : Value) : c'.blk x = c.blk x := by
  cases h with
  | same => rfl
  | box => exact blk_box' _ _ _

theorem boxKeep {id : Nat} {Φ Φ' : Phi} (h : ∀ j, (∀ c', Phi.get Φ' j = some c' → ∃ c, Phi.get Φ j = some c ∧ StaleC id c c') ∧ (∀ c, Phi.get Φ j = some c → ∃ c', Phi.get Φ' j = some c')) (j : Nat) (cs : List SV)
    (hj : Phi.get Φ j = some (.box cs)) : ∃ cs', Phi.get Φ' j = some (.box cs') := by
  obtain ⟨c', h1⟩ := (h j).2 _ hj
  obtain ⟨c, h2, h3⟩ := (h j).1 _ h1
  rw [hj] at h2
  cases h2
  cases h3 with
  | same hn => exact absurd rfl (hn cs)
  | box _ _ => exact ⟨_, h1⟩

theorem StaleC.kind {id c c'} (h : StaleC id c c') : c'.kind = c.kind := by
  cases h <;> rfl
/-- a chunk is written, and gets another header -/
theorem mem_head {r β Φ w} {id : Nat} {ch ch' : Chunk} {v' : Value} {w' : World} {Φ1 Φ' : Phi} (m : MemSat r β Φ w) (hid : Phi.get Φ id = some ch)
    (hΦ1 : ∀ j, (∀ c', Phi.get Φ1 j = some c' → ∃ c, Phi.get Φ j = some c ∧ StaleC id c c') ∧ (∀ c, Phi.get Φ j = some c → ∃ c', Phi.get Φ1 j = some c'))
    (hΦ : ∀ j, Phi.get Φ' j = bif Nat.beq id j then some ch' else Phi.get Φ1 j)
    (hos : w'.os = w.os) (ht : w'.tape = w.tape) (hout : w'.output = w.output) (hsz : w.heap.size ≤ w'.heap.size)
    (hold : ∀ b, b < w.heap.size → ch.blk (β id) ≠ some b → w'.heap[b]? = w.heap[b]?)
    (hblk : ∀ b, ch'.blk v' = some b → ch.blk (β id) = some b ∨ w.heap.size ≤ b)
    (hch : ch'.Sat r (setB β id v') w' v') (hk0 : ch.kind = 0) : MemSat r (setB β id v') Φ' w' ∧ Hid r β Φ w r (setB β id v') Φ' w' := by
  have get : ∀ j c, Phi.get Φ' j = some c → (j = id ∧ c = ch') ∨ (j ≠ id ∧ ∃ c0, Phi.get Φ j = some c0 ∧ StaleC id c0 c) := by
    intro j c h
    rw [hΦ] at h
    cases hq : Nat.beq id j with
    | true => obtain rfl := beq_of hq; rw [hq] at h; simp at h; exact .inl ⟨rfl, h.symm⟩
    | false => rw [hq] at h; exact .inr ⟨(fun he => by (subst he; rw [Nat.beq_refl] at hq; cases hq)), (hΦ1 j).1 c h⟩
  have blk : ∀ j c b, Phi.get Φ' j = some c → c.blk (setB β id v' j) = some b → (∃ c0, Phi.get Φ j = some c0 ∧ c0.blk (β j) = some b) ∨ (j = id ∧ w.heap.size ≤ b) := by
    intro j c b h1 h2
    rcases get j c h1 with ⟨rfl, rfl⟩ | ⟨hne, c0, h, hs⟩
    · rw [setB_self] at h2
      rcases hblk b h2 with h | h
      · exact .inl ⟨ch, hid, h⟩
      · exact .inr ⟨rfl, h⟩
    · rw [setB_ne hne, hs.blk] at h2
      exact .inl ⟨c0, h, h2⟩
  have alive : ∀ j c b, Phi.get Φ j = some c → c.blk (β j) = some b → b < w.heap.size := fun j c b h1 h2 => (m.chs _ _ h1).alive h2
  refine ⟨⟨fun b o h => ?_, fun j c h => ?_, fun j c b h1 h2 => ?_, fun j j' c c' b h1 h1' h2 h2' => ?_⟩,
    hos, ht, hout, hsz, fun b hb' p1 p2 => ⟨hold b hb' (p2 _ _ hid), p1, fun j c h hc => ?_⟩, fun j c h hk => ?_⟩
  · have hv := m.vis _ _ h
    rw [hold b (lt_of_heap hv) (fun hc => by rw [m.sep _ _ _ hid hc] at h; cases h)]
    exact hv
  · rcases get j c h with ⟨rfl, rfl⟩ | ⟨hne, c0, h0, hs⟩
    · rw [setB_self]; exact hch
    · rw [setB_ne hne]
      have hkeep : ∀ b, c0.blk (β j) = some b → w'.heap[b]? = w.heap[b]? := fun b hb => hold b (alive _ _ _ h0 hb) (fun hc => hne (m.nod _ _ _ _ _ h0 hid hb hc))
      have hsat := m.chs _ _ h0
      cases hs with
      | same hnb => exact hsat.keep (Mem.le_refl r) hkeep (fun cells he => (hnb cells he).elim)
      | box hl hst =>
        cases hsat with
        | box hx hw hlc hc =>
          refine .box hx (by rw [hkeep _ (by rw [hx]; rfl)]; exact hw) (by rw [hlc, hl]) fun i sv v p1 p2 => ?_
          obtain ⟨sv0, q1, q2⟩ := hst i sv p1
          exact q2.rel (hc i sv0 v q1 p2) v'
  · rcases blk _ _ _ h1 h2 with ⟨c0, q1, q2⟩ | ⟨rfl, q⟩
    · exact m.sep _ _ _ q1 q2
    · cases hr : r b with
      | none => rfl
      | some o' => exact absurd (lt_of_heap (m.vis _ _ hr)) (by omega)
  · rcases blk _ _ _ h1 h2 with ⟨c0, q1, q2⟩ | ⟨rfl, q⟩ <;> rcases blk _ _ _ h1' h2' with ⟨c1, q1', q2'⟩ | ⟨rfl, q'⟩
    · exact m.nod _ _ _ _ _ q1 q1' q2 q2'
    · exact absurd (alive _ _ _ q1 q2) (by omega)
    · exact absurd (alive _ _ _ q1' q2') (by omega)
    · rfl
  · rcases blk _ _ _ h hc with ⟨c0, q1, q2⟩ | ⟨rfl, q⟩
    · exact p2 _ _ q1 q2
    · omega
  · have hne : j ≠ id := by
      rintro rfl
      rw [hid] at h; cases h; exact hk hk0
    obtain ⟨c1, h1⟩ := (hΦ1 j).2 c h
    obtain ⟨c2, h2, h3⟩ := (hΦ1 j).1 c1 h1
    rw [h] at h2; cases h2
    refine ⟨setB_ne hne, c1, ?_, h3.kind⟩
    rw [hΦ, nbeq_of (fun he => hne he.symm)]
    exact h1
theorem sat_head {B : Base} {e N r β σ Φ a w} {id : Nat} {ch ch' : Chunk} {v' : Value} {w' : World} {σ' : Env} {Φ1 Φ' : Phi} (s : Sat B e N r β σ Φ a w) (hid : Phi.get Φ id = some ch)
    (hσ : ∀ k g sv', Env.get σ' k = some (g, sv') → ∃ sv, Env.get σ k = some (g, sv) ∧ Stale id sv sv')
    (hΦ1 : ∀ j, (∀ c', Phi.get Φ1 j = some c' → ∃ c, Phi.get Φ j = some c ∧ StaleC id c c') ∧ (∀ c, Phi.get Φ j = some c → ∃ c', Phi.get Φ1 j = some c'))
    (hΦ : ∀ j, Phi.get Φ' j = bif Nat.beq id j then some ch' else Phi.get Φ1 j)
    (hos : w'.os = w.os) (ht : w'.tape = w.tape) (hout : w'.output = w.output) (hsz : w.heap.size ≤ w'.heap.size)
    (hold : ∀ b, b < w.heap.size → ch.blk (β id) ≠ some b → w'.heap[b]? = w.heap[b]?)
    (hblk : ∀ b, ch'.blk v' = some b → ch.blk (β id) = some b ∨ w.heap.size ≤ b)
    (hch : ch'.Sat r (setB β id v') w' v') (hk0 : ch.kind = 0) : Sat B e N r (setB β id v') σ' Φ' a w' := by
  obtain ⟨h1, h2⟩ := mem_head s.mem hid hΦ1 hΦ hos ht hout hsz hold hblk hch hk0
  refine s.step (s.agree.of fun k g sv' hg => ?_) h1 (Mem.le_refl r) h2
  obtain ⟨sv, q1, q2⟩ := hσ k g sv' hg
  exact ⟨sv, q1, fun v hr => q2.rel hr v'⟩

/-- new rows, as cells -/
structure NewRows (r : Mem) (sz m : Nat) (rows : List (List SV)) (news : List Value) : Prop where
  len : rows.length = m
  size : news.length = m * sz
  row : ∀ (i : Nat) (row : List SV), rows[i]? = some row → row.length = sz
  rel : ∀ (i : Nat) (row : List SV) (j : Nat) (sv : SV) (v : Value), rows[i]? = some row → row[j]? = some sv → news[i * sz + j]? = some v → Rel r β0 sv v
  one : ∀ (i : Nat) (row : List SV) (j : Nat) (sv : SV), rows[i]? = some row → row[j]? = some sv → sv.one = true
  ones : ∀ v ∈ news, v.oneCell' = true

def blkOf : Value → Option Nat
  | .slice (some a) _ cap => bif Nat.beq cap 0 then none else some a.block
  | _ => none
theorem blk_own_eq (τ : Ty) (l : List τ.T) (x : Value) : (Chunk.own τ l).blk x = blkOf x := by
  cases x <;> first | rfl | (rename_i a _ _; cases a <;> rfl)

theorem RowsAt.app {r : Mem} {sz n m : Nat} {rows new : List (List SV)} {news : List Value} {c c' : Array Value} {off : Nat}
    (hn : rows.length = n) (nr : NewRows r sz m new news)
    (hrow : ∀ (i : Nat) (row : List SV), rows[i]? = some row → row.length = sz)
    (hrel : ∀ (i : Nat) (row : List SV) (j : Nat) (sv : SV) (v : Value), rows[i]? = some row → row[j]? = some sv → c[off + i * sz + j]? = some v → Rel r β0 sv v)
    {off' : Nat} (hold : ∀ j, j < n * sz → c'[off' + j]? = c[off + j]?) (hnew : ∀ j, j < m * sz → c'[off' + n * sz + j]? = news[j]?) :
    (∀ (i : Nat) (row : List SV), (rows ++ new)[i]? = some row → row.length = sz) ∧
    (∀ (i : Nat) (row : List SV) (j : Nat) (sv : SV) (v : Value), (rows ++ new)[i]? = some row → row[j]? = some sv → c'[off' + i * sz + j]? = some v → Rel r β0 sv v) := by
  have lt : ∀ {l : List SV} {j : Nat} {sv}, l[j]? = some sv → j < l.length := by
    intro l j sv h
    rcases Nat.lt_or_ge j l.length with h' | h'
    · exact h'
    · rw [List.getElem?_eq_none h'] at h; cases h
  have ltr : ∀ {l : List (List SV)} {j : Nat} {sv}, l[j]? = some sv → j < l.length := by
    intro l j sv h
    rcases Nat.lt_or_ge j l.length with h' | h'
    · exact h'
    · rw [List.getElem?_eq_none h'] at h; cases h
  refine ⟨fun i row hi => ?_, fun i row j sv v hi hj hv => ?_⟩
  · rw [List.getElem?_append] at hi
    split at hi
    · exact hrow _ _ hi
    · exact nr.row _ _ hi
  · rw [List.getElem?_append] at hi
    split at hi
    · rename_i hlt
      have hjs : j < sz := by have := hrow _ _ hi; have := lt hj; omega
      have hb : i * sz + j < n * sz := by
        have : (i + 1) * sz ≤ n * sz := Nat.mul_le_mul_right sz (by omega)
        rw [Nat.add_mul] at this; omega
      rw [Nat.add_assoc, hold _ hb, ← Nat.add_assoc] at hv
      exact hrel i row j sv v hi hj hv
    · rename_i hge
      have hjs : j < sz := by have := nr.row _ _ hi; have := lt hj; omega
      have him := ltr hi
      rw [nr.len] at him
      have hb : (i - n) * sz + j < m * sz := by
        have : (i - n + 1) * sz ≤ m * sz := Nat.mul_le_mul_right sz (by omega)
        rw [Nat.add_mul] at this; omega
      have e : off' + i * sz + j = off' + n * sz + ((i - n) * sz + j) := by
        have : i * sz = n * sz + (i - n) * sz := by rw [← Nat.add_mul]; congr 1; omega
        omega
      rw [e, hnew _ hb] at hv
      rw [hn] at hi
      exact nr.rel _ _ _ _ _ hi hj hv

theorem one_app {r : Mem} {sz m : Nat} {rows new : List (List SV)} {news : List Value}
    (h : ∀ (i : Nat) (row : List SV) (j : Nat) (sv : SV), rows[i]? = some row → row[j]? = some sv → sv.one = true) (nr : NewRows r sz m new news) :
    ∀ (i : Nat) (row : List SV) (j : Nat) (sv : SV), (rows ++ new)[i]? = some row → row[j]? = some sv → sv.one = true := by
  intro i row j sv hi hj
  rw [List.getElem?_append] at hi
  split at hi
  · exact h _ _ _ _ hi hj
  · exact nr.one _ _ _ _ hi hj

set_option maxHeartbeats 1000000 in
theorem run_append {P : Program} {r : Mem} {w : World} {t tx e ty : TypeId} {dx : TypeDesc} {i : TypeInfo} {z : Value} (ht : P.underlying t = some (.slice e)) (hx : P.underlying tx = some dx)
    (hni : dx = .string ∨ ∃ e', dx = .slice e') (hi : P.info? e = some i) (hz : i.zero = some z) (hzs : z.cells.size = i.size) (hsz : i.size ≠ 0)
    {v xv : Value} {rows new : List (List SV)} {news : List Value} {m : Nat} {bt : Bool} (hv : RowsAt r w v bt i.size rows) (nr : NewRows r i.size m new news)
    (hlen : ∀ w', (Builtin.lenOf xv).run P w' = .ok m w') (hnews : ∀ w', w'.heap = w.heap → (Builtin.firstCells i.size m xv).run P w' = .ok news.toArray w')
    (hb : (rows.length + m) * i.bytes ≤ 70368744177664) (hb2 : rows.length + m ≤ 70368744177664) :
    ∃ v' w', (Builtin.append_ #[t, tx] ty #[v, xv]).run P w = .ok v' w' ∧ RowsAt r w' v' bt i.size (rows ++ new) ∧ w'.os = w.os ∧ w'.tape = w.tape ∧ w'.output = w.output ∧ w.heap.size ≤ w'.heap.size ∧
      (∀ b, b < w.heap.size → blkOf v ≠ some b → w'.heap[b]? = w.heap[b]?) ∧ (∀ b, blkOf v' = some b → blkOf v = some b ∨ w.heap.size ≤ b) := by
  have hrow0 : ∀ (i' : Nat) (row : List SV), ([] : List (List SV))[i']? = some row → row.length = i.size := by intro i' row h; simp at h
  -- where it must grow
  have grow : ∀ (a0 : Option Addr) (cap : Nat) (olds : List Value), v = .slice a0 rows.length cap → ¬ (rows.length + m ≤ cap) → olds.length = rows.length * i.size →
      (∀ w', w'.heap = w.heap → (Builtin.firstCells i.size rows.length v).run P w' = .ok olds.toArray w') →
      (∀ (i' : Nat) (row : List SV), rows[i']? = some row → row.length = i.size) →
      (∀ (i' : Nat) (row : List SV) (j : Nat) (sv : SV), rows[i']? = some row → row[j]? = some sv → sv.one = true) →
      (∀ (i' : Nat) (row : List SV) (j : Nat) (sv : SV) (u : Value), rows[i']? = some row → row[j]? = some sv → olds[i' * i.size + j]? = some u → Rel r β0 sv u) →
      ∃ v' w', (Builtin.append_ #[t, tx] ty #[v, xv]).run P w = .ok v' w' ∧ RowsAt r w' v' bt i.size (rows ++ new) ∧ w'.os = w.os ∧ w'.tape = w.tape ∧ w'.output = w.output ∧ w.heap.size ≤ w'.heap.size ∧
      (∀ b, b < w.heap.size → blkOf v ≠ some b → w'.heap[b]? = w.heap[b]?) ∧ (∀ b, blkOf v' = some b → blkOf v = some b ∨ w.heap.size ≤ b) := by
    intro a0 cap olds hve hn holen holds hrow hone hrel
    have h63 : ¬ ((9223372036854775807 : Int) < ((rows.length + m : Nat) : Int)) := by omega
    have hfit : Builtin.nextslicecap (rows.length + m) cap * i.bytes ≤ 281474976710656 := growslice_fits (by omega) (by omega)
    have h48 : ¬ (281474976710656 < Builtin.nextslicecap (rows.length + m) cap * i.bytes) := by omega
    have hge : rows.length + m ≤ grownCap w (rows.length + m) cap e := grownCap_ge w _ _ _
    refine ⟨.slice (some ⟨w.heap.size, 0, none⟩) (rows.length + m) (grownCap w (rows.length + m) cap e),
      { w with heap := w.heap.push (.cells (olds.toArray ++ (news.toArray ++ Builtin.zeroCells z.cells (grownCap w (rows.length + m) cap e - (rows.length + m)))) e), drawn := w.drawn + 1 }, ?_, ?_, rfl, rfl, rfl, ?_, ?_, ?_⟩
    · have hf := hnews w.drew rfl
      have hfo := holds w.drew rfl
      rw [hve] at hfo ⊢
      have hl := hlen w
      have h63' : ¬ (9223372036854775807 < (rows.length : Int) + (m : Int)) := by omega
      rcases hni with rfl | ⟨e', rfl⟩
      all_goals
        simp [Builtin.append_, run_underlying ht, run_underlying hx, sizeOf, typeInfo, zeroValue, hi, hz, hl, hn, h63', h48, Question.forced, hf, hfo, newRow, grownCap]
        rfl
    · have hg0 : grownCap w (rows.length + m) cap e ≠ 0 := by omega
      have hzc : (Builtin.zeroCells z.cells (grownCap w (rows.length + m) cap e - (rows.length + m))).size = (grownCap w (rows.length + m) cap e - (rows.length + m)) * i.size := by rw [size_zeroCells, hzs]
      have hnl := nr.size
      have hap := RowsAt.app (c := olds.toArray) (c' := olds.toArray ++ (news.toArray ++ Builtin.zeroCells z.cells (grownCap w (rows.length + m) cap e - (rows.length + m)))) (off := 0) (off' := 0) (n := rows.length) rfl nr hrow
        (fun i' row j sv u q1 q2 q3 => hrel i' row j sv u q1 q2 (by simpa using q3))
        (fun j hj => by rw [Nat.zero_add, Array.getElem?_append_left (by simp; omega)])
        (fun j hj => by
          rw [Nat.zero_add, Array.getElem?_append_right (by simp; omega)]
          simp only [List.size_toArray, holen, Nat.add_sub_cancel_left]
          rw [Array.getElem?_append_left (by simp; omega)]
          simp)
      refine .inr ⟨w.heap.size, 0, grownCap w (rows.length + m) cap e, _, e, (0, 0), ?_, hg0, heap_alloc_eq (w := { w with drawn := w.drawn + 1 }), .inl rfl, ?_, ?_, ?_, hap.1, one_app hone nr, hap.2⟩
      · rw [List.length_append, nr.len]
      · exact grownCap_le_maxLen w _ _ _ (by show rows.length + m ≤ 2 ^ 63 - 1; omega)
      · rw [List.length_append, nr.len]; exact hge
      · simp only [Array.size_append, List.size_toArray, hzc, holen, hnl, Nat.zero_add]
        rw [← Nat.add_mul, ← Nat.add_mul]
        exact Nat.mul_le_mul_right _ (by omega)
    · show w.heap.size ≤ (w.heap.push _).size; simp
    · intro b hb' _
      exact heap_alloc_lt (w := { w with drawn := w.drawn + 1 }) hb'
    · intro b hb'
      have : grownCap w (rows.length + m) cap e ≠ 0 := by omega
      simp only [blkOf, nbeq_of this, cond_false, Option.some.injEq] at hb'
      right; omega
  rcases hv with ⟨a, hve, hr0⟩ | ⟨b, off, cap, c, T, fr, hve, hc0, hw, hfr, hm1, hcap, hszc, hrow, hone, hrel⟩
  · subst hr0
    by_cases hm : m = 0
    · subst hm
      have hnn : new = [] := List.length_eq_zero_iff.1 nr.len
      have hne : news = [] := List.length_eq_zero_iff.1 (by simpa using nr.size)
      subst hnn; subst hne
      refine ⟨v, w, ?_, .inl ⟨a, hve, rfl⟩, rfl, rfl, rfl, Nat.le_refl _, fun _ _ _ => rfl, fun b hb => ?_⟩
      · rw [hve]
        have hl := hlen w
        have hf := hnews w rfl
        rcases hni with rfl | ⟨e', rfl⟩
        all_goals
          simp only [List.length_nil] at *
          simp [Builtin.append_, run_underlying ht, run_underlying hx, sizeOf, typeInfo, hi, hl, hf]
          cases a <;> simp [storeCells]
      · rw [hve] at hb; cases a <;> simp [blkOf] at hb
    · refine grow a 0 [] (by simpa using hve) (by simp; omega) (by simp) (fun w' _ => ?_) hrow0 (fun i' row j sv q1 => by simp at q1) (fun i' row j sv u q1 => by simp at q1)
      rw [hve]
      cases a <;> simp [Builtin.firstCells, loadCells, loadCellsFrom]
  · have hbl : blkOf v = some b := by rw [hve]; simp only [blkOf, nbeq_of hc0]; rfl
    by_cases hroom : rows.length + m ≤ cap
    · have hfit : off + rows.length * i.size + 0 + news.length ≤ c.size := by
        rw [nr.size]
        have := Nat.mul_le_mul_right i.size hroom
        rw [Nat.add_mul] at this
        omega
      obtain ⟨cur', w', hst, q1, q2, q3, q4⟩ := run_storeCells (P := P) b (off + rows.length * i.size) T fr news 0 c w hw hfit nr.ones (hfr.cell)
      refine ⟨.slice (some ⟨b, off, none⟩) (rows.length + m) cap, w', ?_, ?_, q2.os, q2.tape, q2.output, by rw [q2.size]; exact Nat.le_refl _, fun b' _ hb' => q2.old b' (fun he => hb' (he ▸ hbl)), fun b' hb' => ?_⟩
      · rw [hve]
        have hl := hlen w
        have hf := hnews w rfl
        rcases hni with rfl | ⟨e', rfl⟩
        all_goals
          simp [Builtin.append_, run_underlying ht, run_underlying hx, sizeOf, typeInfo, hi, hl, hf, hroom, add_mk, hst]
      · have hap := RowsAt.app (c := c) (c' := cur') (off := off) (off' := off) (n := rows.length) rfl nr hrow hrel
          (fun j hj => by rw [q4, if_neg (by omega)])
          (fun j hj => by
            rw [q4, if_pos (by have := nr.size; omega)]
            congr 1; omega)
        refine .inr ⟨b, off, cap, cur', T, fr, by rw [List.length_append, nr.len], hc0, q1, hfr.turn q3, hm1, by rw [List.length_append, nr.len]; exact hroom, by rw [q3]; exact hszc, hap.1, one_app hone nr, hap.2⟩
      · simp only [blkOf, nbeq_of hc0, cond_false, Option.some.injEq] at hb'
        left; rw [hbl, ← hb']
    · -- it grows
      have hbnd : ∀ j, j < rows.length * i.size → off + j < c.size := by
        intro j hj
        have := Nat.mul_le_mul_right i.size hcap
        omega
      refine grow (some ⟨b, off, none⟩) cap ((List.range (rows.length * i.size)).map fun j => c.getD (off + j) undef) hve hroom (by simp) (fun w' hw' => ?_) hrow hone (fun i' row j sv u q1 q2 q3 => ?_)
      · rw [hve]
        have hw'' : w'.heap[b]? = some (.cells c T fr) := by rw [hw']; exact hw
        have := run_loadCells (P := P) w' ⟨b, off, none⟩ (rows.length * i.size) (fun j => c.getD (off + j) undef) (fun j hj => by
          rw [add_mk, cell_of_block hw'']
          simp [Array.getD_eq_getD_getElem?, hbnd j hj])
        simp only [Builtin.firstCells, this]
      · have hlt : i' * i.size + j < rows.length * i.size := by
          rcases Nat.lt_or_ge (i' * i.size + j) (rows.length * i.size) with h | h
          · exact h
          · rw [List.getElem?_eq_none (by simpa using h)] at q3; cases q3
        rw [List.getElem?_map, List.getElem?_range hlt] at q3
        simp only [Option.map_some, Option.some.injEq] at q3
        refine hrel i' row j sv u q1 q2 ?_
        rw [Nat.add_assoc, ← q3, Array.getD_eq_getD_getElem?, Array.getElem?_eq_getElem (hbnd _ hlt)]
        rfl

end Go.Vc

namespace Go.Vc
set_option autoImplicit false
set_option linter.unusedVariables false
set_option linter.unusedSimpArgs false

theorem rows_news {P : Program} {r : Mem} {w : World} {sz : Nat} {rows : List (List SV)} {b off cap : Nat} {c : Array Value} {T : TypeId} {fr : Nat × Nat}
    (hw : w.heap[b]? = some (.cells c T fr)) (hc : off + rows.length * sz ≤ c.size)
    (hrow : ∀ (i : Nat) (row : List SV), rows[i]? = some row → row.length = sz)
    (hone : ∀ (i : Nat) (row : List SV) (j : Nat) (sv : SV), rows[i]? = some row → row[j]? = some sv → sv.one = true)
    (hrel : ∀ (i : Nat) (row : List SV) (j : Nat) (sv : SV) (v : Value), rows[i]? = some row → row[j]? = some sv → c[off + i * sz + j]? = some v → Rel r β0 sv v) :
    ∃ news, NewRows r sz rows.length rows news ∧ ∀ w', w'.heap = w.heap → (Builtin.firstCells sz rows.length (.slice (some ⟨b, off, none⟩) rows.length cap)).run P w' = .ok news.toArray w' := by
  have hbnd : ∀ j, j < rows.length * sz → off + j < c.size := by intro j hj; omega
  have get : ∀ (j : Nat) (u : Value), ((List.range (rows.length * sz)).map fun j => c.getD (off + j) undef)[j]? = some u → j < rows.length * sz ∧ c[off + j]? = some u := by
    intro j u h
    have hlt : j < rows.length * sz := by have := lt_len h; simpa using this
    rw [List.getElem?_map, List.getElem?_range hlt] at h
    simp only [Option.map_some, Option.some.injEq] at h
    refine ⟨hlt, ?_⟩
    rw [← h, Array.getD_eq_getD_getElem?, Array.getElem?_eq_getElem (hbnd _ hlt)]
    rfl
  refine ⟨(List.range (rows.length * sz)).map fun j => c.getD (off + j) undef, ⟨rfl, by simp, hrow, fun i row j sv v h1 h2 h3 => ?_, hone, fun v hv => ?_⟩, fun w' hw' => ?_⟩
  · have := (get _ _ h3).2
    rw [← Nat.add_assoc] at this
    exact hrel _ _ _ _ _ h1 h2 this
  · obtain ⟨k, hk, rfl⟩ := List.getElem_of_mem hv
    obtain ⟨hlt, hcv⟩ := get k _ (List.getElem?_eq_getElem hk)
    have hsz : 0 < sz := by
      rcases Nat.eq_zero_or_pos sz with h | h
      · subst h; simp at hlt
      · exact h
    have hi : k / sz < rows.length := (Nat.div_lt_iff_lt_mul hsz).2 hlt
    have h1 : rows[k / sz]? = some rows[k / sz] := List.getElem?_eq_getElem hi
    have hrl := hrow _ _ h1
    have hj : k % sz < rows[k / sz].length := by rw [hrl]; exact Nat.mod_lt _ hsz
    have h2 : rows[k / sz][k % sz]? = some rows[k / sz][k % sz] := List.getElem?_eq_getElem hj
    have e : k / sz * sz + k % sz = k := by rw [Nat.mul_comm]; exact Nat.div_add_mod k sz
    exact (hrel _ _ _ _ _ h1 h2 (by rw [Nat.add_assoc, e]; exact hcv)).oneCell (hone _ _ _ _ h1 h2)
  · have hw'' : w'.heap[b]? = some (.cells c T fr) := by rw [hw']; exact hw
    have := run_loadCells (P := P) w' ⟨b, off, none⟩ (rows.length * sz) (fun j => c.getD (off + j) undef) (fun j hj => by
      rw [add_mk, cell_of_block hw'']
      simp [Array.getD_eq_getD_getElem?, hbnd j hj])
    simp only [Builtin.firstCells, this]

theorem news_empty {P : Program} {r : Mem} {w : World} {sz : Nat} (a : Option Addr) (cap : Nat) :
    ∃ news, NewRows r sz 0 [] news ∧ ∀ w', w'.heap = w.heap → (Builtin.firstCells sz 0 (.slice a 0 cap)).run P w' = .ok news.toArray w' := by
  refine ⟨[], ⟨rfl, by simp, fun i row h => by simp at h, fun i row j sv v h => by simp at h, fun i row j sv h => by simp at h, fun v hv => by cases hv⟩, fun w' _ => ?_⟩
  cases a <;> simp [Builtin.firstCells, loadCells, loadCellsFrom]

theorem lits_news {P : Program} {r : Mem} {β : Bind} {w : World} {sz : Nat} {rows : List (List SV)} {x : Value} (h : Rel r β (.lits sz rows) x) (hvis : ∀ b o, r b = some o → w.heap[b]? = some o) :
    ∃ news, NewRows r sz rows.length rows news ∧ (∀ w', (Builtin.lenOf x).run P w' = .ok rows.length w') ∧ ∀ w', w'.heap = w.heap → (Builtin.firstCells sz rows.length x).run P w' = .ok news.toArray w' := by
  cases h with
  | litsE => obtain ⟨news, h1, h2⟩ := news_empty (P := P) (r := r) (w := w) (sz := sz) _ _; exact ⟨news, h1, fun w' => rfl, h2⟩
  | lits hb hn hcap hrow ho hc hr =>
    rename_i b off cap c T fr
    obtain ⟨news, h1, h2⟩ := rows_news (P := P) (cap := cap) (hvis _ _ hb) hc hrow ho hr
    exact ⟨news, h1, fun w' => rfl, h2⟩

theorem rowsAt_news {P : Program} {r : Mem} {w : World} {sz : Nat} {rows : List (List SV)} {bt : Bool} {x : Value} (h : RowsAt r w x bt sz rows) :
    ∃ news, NewRows r sz rows.length rows news ∧ (∀ w', (Builtin.lenOf x).run P w' = .ok rows.length w') ∧ ∀ w', w'.heap = w.heap → (Builtin.firstCells sz rows.length x).run P w' = .ok news.toArray w' := by
  rcases h with ⟨a, rfl, rfl⟩ | ⟨b, off, cap, c, T, fr, rfl, hc0, hw, hfr, hm1, hcap, hszc, hrow, hone, hrel⟩
  · obtain ⟨news, h1, h2⟩ := news_empty (P := P) (r := r) (w := w) (sz := sz) a 0; exact ⟨news, h1, fun w' => rfl, h2⟩
  · have : off + rows.length * sz ≤ c.size := by have := Nat.mul_le_mul_right sz hcap; omega
    obtain ⟨news, h1, h2⟩ := rows_news (P := P) (cap := cap) hw this hrow hone hrel
    exact ⟨news, h1, fun w' => rfl, h2⟩

theorem str_news {P : Program} {r : Mem} {w : World} (l : List UInt8) :
    ∃ news, NewRows r 1 l.length (l.map (Ty.enc .byte)) news ∧ (∀ w', (Builtin.lenOf (.string ⟨l.toArray⟩)).run P w' = .ok l.length w') ∧ ∀ w', w'.heap = w.heap → (Builtin.firstCells 1 l.length (.string ⟨l.toArray⟩)).run P w' = .ok news.toArray w' := by
  refine ⟨l.map fun b => .int .u8 b.toNat, ⟨by simp, by simp, fun i row h => ?_, fun i row j sv v h1 h2 h3 => ?_, fun i row j sv h1 h2 => ?_, fun v hv => ?_⟩, fun w' => by simp [Builtin.lenOf, ByteArray.size], fun w' _ => ?_⟩
  · rw [List.getElem?_map] at h
    cases hq : l[i]? with
    | none => rw [hq] at h; cases h
    | some b => rw [hq] at h; simp at h; subst h; rfl
  · rw [List.getElem?_map] at h1
    cases hq : l[i]? with
    | none => rw [hq] at h1; cases h1
    | some b =>
      rw [hq] at h1
      simp at h1
      subst h1
      cases j with
      | zero =>
        simp [Ty.enc] at h2
        subst h2
        rw [List.getElem?_map] at h3
        simp only [Nat.mul_one, Nat.add_zero, hq, Option.map_some, Option.some.injEq] at h3
        subst h3
        exact .int
      | succ j => simp [Ty.enc] at h2
  · rw [List.getElem?_map] at h1
    cases hq : l[i]? with
    | none => rw [hq] at h1; cases h1
    | some b =>
      rw [hq] at h1
      simp at h1
      subst h1
      cases j with
      | zero => simp [Ty.enc] at h2; subst h2; rfl
      | succ j => simp [Ty.enc] at h2
  · obtain ⟨b, _, rfl⟩ := List.mem_map.1 hv; rfl
  · have : (ByteArray.mk l.toArray).extract 0 l.length = ByteArray.mk l.toArray := by rw [ByteArray.extract_mk]; simp
    simp [Builtin.firstCells, this]

theorem NewRows.ent {r sz m rows news} {τ : Ty} {l : List τ.T} (nr : NewRows r sz m rows news) (h : EntRows τ rows l) (hs : sz = τ.size) : NewRows r sz m (l.map τ.enc) news := by
  have key : ∀ (i : Nat) (row : List SV), (l.map τ.enc)[i]? = some row → ∃ row0, rows[i]? = some row0 ∧ Entl row0 row := by
    intro i row hi
    rw [List.getElem?_map] at hi
    cases hq : l[i]? with
    | none => rw [hq] at hi; cases hi
    | some a =>
      rw [hq] at hi
      simp at hi
      subst hi
      have hlt : i < rows.length := by have := lt_len hq; rw [← h.1]; exact this
      exact ⟨rows[i], List.getElem?_eq_getElem hlt, h.2 i _ a (List.getElem?_eq_getElem hlt) hq⟩
  refine ⟨by simp [h.1, nr.len], nr.size, fun i row hi => ?_, fun i row j sv v hi hj hv => ?_, fun i row j sv hi hj => ?_, nr.ones⟩
  · obtain ⟨row0, g1, g2⟩ := key i row hi; rw [g2.1]; exact nr.row _ _ g1
  · obtain ⟨row0, g1, g2⟩ := key i row hi
    have hjl : j < row0.length := by have := lt_len hj; rw [← g2.1]; exact this
    exact (g2.2 j _ sv (List.getElem?_eq_getElem hjl) hj).1 _ _ _ (nr.rel _ _ _ _ _ g1 (List.getElem?_eq_getElem hjl) hv)
  · obtain ⟨row0, g1, g2⟩ := key i row hi
    have hjl : j < row0.length := by have := lt_len hj; rw [← g2.1]; exact this
    exact (g2.2 j _ sv (List.getElem?_eq_getElem hjl) hj).2.1 (nr.one _ _ _ _ g1 (List.getElem?_eq_getElem hjl))

theorem srcK_sound {P : Program} {Φ : Phi} {e : TypeId} {τ : Ty} {x : SV} {K : List τ.T → Prop} (h : srcK P Φ e τ x K) :
    ∃ l, K l ∧ ∃ i, P.info? e = some i ∧ i.size = τ.size ∧ ∀ r β w xv, Rel r β x xv → MemSat r β Φ w → ∃ news, NewRows r i.size l.length (l.map τ.enc) news ∧ (∀ w', (Builtin.lenOf xv).run P w' = .ok l.length w') ∧
      (∀ w', w'.heap = w.heap → (Builtin.firstCells i.size l.length xv).run P w' = .ok news.toArray w') := by
  unfold srcK at h
  cases hz : szOk P e τ.size with
  | false => rw [hz] at h; exact h.elim
  | true =>
  rw [hz] at h
  obtain ⟨i, hi, his⟩ := szOk_info hz
  simp only [cond_true] at h
  split at h
  · rename_i s rows
    cases hs : Nat.beq s τ.size with
    | false => rw [hs] at h; exact h.elim
    | true =>
      rw [hs] at h
      obtain ⟨l, hk, hl⟩ := decRowsK_sound (fun _ _ h => decK_sound h) h
      refine ⟨l, hk, i, hi, his, fun r β w xv hx m => ?_⟩
      have hs' := beq_of hs
      subst hs'
      obtain ⟨news, h1, h2, h3⟩ := lits_news (P := P) hx m.vis
      rw [his]
      rw [← hl.1] at h1 h2 h3
      exact ⟨news, h1.ent hl rfl, h2, h3⟩
  · rename_i τ' l
    obtain ⟨rfl, h⟩ := castK_sound h
    refine ⟨l, h, i, hi, his, fun r β w xv hx m => ?_⟩
    cases hx with
    | rd hx => have := lits_news (P := P) hx m.vis; rw [his]; simpa using this
  · refine ⟨[], h, i, hi, his, fun r β w xv hx m => ?_⟩
    cases hx
    obtain ⟨news, h1, h2⟩ := news_empty (P := P) (r := r) (w := w) (sz := i.size) none 0
    exact ⟨news, h1, fun w' => rfl, h2⟩
  · rename_i l
    obtain ⟨rfl, h⟩ := castK_sound h
    refine ⟨l, h, i, hi, his, fun r β w xv hx m => ?_⟩
    rw [his]
    cases hx
    exact str_news l
  · rename_i id
    split at h
    · rename_i τ' l hg
      obtain ⟨rfl, h⟩ := castK_sound h
      refine ⟨l, h, i, hi, his, fun r β w xv hx m => ?_⟩
      rw [his]
      cases hx
      have hs := m.rowsR hg
      cases hs with
      | own hs => have := rowsAt_news (P := P) hs; simpa using this
    · exact h.elim
  · exact h.elim

theorem RowsAt.oneCell {r w x bt sz rows} (h : RowsAt r w x bt sz rows) : x.oneCell' = true := by
  obtain ⟨a, cap, rfl, _⟩ := h.slice; rfl

theorem zero_of_run {P : Program} {el : TypeId} {i : TypeInfo} {zv : Value} {w : World} (hi : P.info? el = some i) (h : (zeroValue el).run P w = .ok zv w) : i.zero = some zv := by
  cases hq : i.zero with
  | none => simp [zeroValue, typeInfo, hi, hq] at h
  | some z0 => simp [zeroValue, typeInfo, hi, hq] at h; rw [h]

theorem own_rel {r β id v} (h : Value.oneCell' v = true) : Rel r (setB β id v) (.own id) v := by
  have hs := setB_self β id v
  have q := Rel.own (r := r) (β := setB β id v) (id := id) (by rw [hs]; exact h)
  rwa [hs] at q

theorem appendK_sound {B : Base} {e N r β σ Φ a w n ts tx ty} {s x : SV} {vs vx : Value} {K : EK} (h : appendK B ts tx s x σ Φ n K) (st : Sat B e N r β σ Φ a w) (hs : Rel r β s vs) (hx : Rel r β x vx) :
    ∃ sv σ' Φ' n' v w' β', K sv σ' Φ' n' ∧ (Builtin.append_ #[ts, tx] ty #[vs, vx]).run B.P w = .ok v w' ∧ Rel r β' sv v ∧ Sat B e N r β' σ' Φ' a w' ∧ (∀ D, GdIn D σ → GdIn D σ') := by
  unfold appendK at h
  split at h
  · rename_i el dx hts htx
    cases hc : (!appendK.isSrcD dx || Nat.beq (sizeT B.P el) 0) with
    | true => rw [hc] at h; exact h.elim
    | false =>
    rw [hc] at h
    simp only [Bool.or_eq_false_iff, Bool.not_eq_false'] at hc
    obtain ⟨hc1, hc2⟩ := hc
    have hsrc : dx = .string ∨ ∃ e', dx = .slice e' := by
      cases dx <;> first | (cases hc1; done) | exact .inl rfl | exact .inr ⟨_, rfl⟩
    simp only [cond_false] at h
    obtain ⟨z, zv, h, hz1, _, hzrun, hzrel⟩ := zeroK_sound h
    cases hz2 : Nat.beq (len z) (sizeT B.P el) with
    | false => rw [hz2] at h; exact h.elim
    | true =>
    rw [hz2] at h
    simp only [cond_true] at h
    have hzl := beq_of hz2
    rw [len_eq] at hzl
    have common : ∀ {i}, B.P.info? el = some i → i.size ≠ 0 ∧ bytesT B.P el = i.bytes ∧ ∃ z0, i.zero = some z0 ∧ z0.cells.size = i.size := by
      intro i hi
      rw [sizeT_run hi] at hc2 hzl
      refine ⟨(by intro h0; rw [h0] at hc2; cases hc2), by simp [bytesT, hi], zv, zero_of_run hi (hzrun w), ?_⟩
      have := (hzrel r β).1
      simp at this
      omega
    split at h
    · -- to a nil slice
      cases hs
      split at h
      · rename_i τ hty
        obtain ⟨l, h, i, hi, his, hrows⟩ := srcK_sound h
        obtain ⟨hsz, hby, z0, hz0, hzc⟩ := common hi
        obtain ⟨news, nr, hlen, hnews⟩ := hrows r β w vx hx st.mem
        obtain ⟨hob, h⟩ := h
        have hob := hob.h
        rw [hby] at hob
        obtain ⟨v', w', hr, q1, q2, q3, q4, q5, q6, q7⟩ := run_append (P := B.P) (ty := ty) (v := .slice none 0 0) (rows := []) hts htx hsrc hi hz0 hzc hsz (.inl ⟨none, rfl, rfl⟩) nr hlen hnews (by simpa using hob.1) (by simpa using hob.2)
        have hg : Grows w w' := ⟨q2, q3, q4, q5, fun b hb => q6 b hb (by simp [blkOf])⟩
        have hblk : ∀ b, blkOf v' = some b → w.heap.size ≤ b := by
          intro b hb
          rcases q7 b hb with h | h
          · simp [blkOf] at h
          · exact h
        simp only [List.nil_append] at q1
        rw [his] at q1
        obtain ⟨sv, σ', Φ', n', hk, rfl, β', hr', hsat⟩ := newChK_sound h st hg (v := v') (fun b hb => hblk b (by rw [← blk_own_eq]; exact hb)) (.own q1) (own_rel q1.oneCell)
        exact ⟨sv, σ', Φ', n', v', w', β', hk, hr, hr', hsat, fun D hD => hD⟩
      · exact h.elim
    · rename_i id _
      split at h
      · rename_i τ l hg
        obtain ⟨as, h, i, hi, his, hrows⟩ := srcK_sound h
        obtain ⟨hsz, hby, z0, hz0, hzc⟩ := common hi
        obtain ⟨news, nr, hlen, hnews⟩ := hrows r β w vx hx st.mem
        obtain ⟨hob, h⟩ := h
        have hob := hob.h
        rw [hby] at hob
        obtain ⟨σ', h, hσ⟩ := staleE_sound h
        obtain ⟨Φ1, h, hΦ1⟩ := staleP_sound h
        obtain ⟨c1, hc1'⟩ := (hΦ1 id).2 _ hg
        obtain ⟨Φ', hk, hΦ⟩ := setPK_sound h (hasId_of hc1')
        cases hs
        have hrs := st.mem.rows hg
        cases hrs with
        | own hrs =>
          rw [← his] at hrs
          obtain ⟨v', w', hr, q1, q2, q3, q4, q5, q6, q7⟩ := run_append (P := B.P) (ty := ty) hts htx hsrc hi hz0 hzc hsz hrs nr hlen hnews (by simpa using hob.1) (by simpa using hob.2)
          rw [← List.map_append, his] at q1
          have hsat := sat_head (ch' := .own τ (l ++ as)) (v' := v') st hg hσ hΦ1 hΦ q2 q3 q4 q5
            (fun b hb hnb => q6 b hb (by rw [← blk_own_eq]; exact hnb)) (fun b hb => by rw [blk_own_eq] at hb ⊢; exact q7 b hb) (.own q1) rfl
          refine ⟨_, σ', Φ', n, v', w', _, hk, hr, ?_, hsat, fun D hD k s0 w0 sv0 hk0 => ?_⟩
          · exact own_rel q1.oneCell
          · obtain ⟨sv1, g1, _⟩ := hσ k _ _ hk0
            exact hD _ _ _ _ g1
      · exact h.elim
    · exact h.elim
  · exact h.elim

end Go.Vc
