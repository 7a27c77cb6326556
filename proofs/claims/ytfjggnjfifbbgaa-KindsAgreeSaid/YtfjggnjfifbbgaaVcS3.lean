/- A part of the proof: lemmas and walks that the last text of the claim joins; no condition. -/
import Derived.Test.YtfjggnjfifbbgaaVcS2
import Derived.Laws.Strings2
import Derived.Laws.Cells
import Derived.Laws.World
namespace Go.Vc
set_option autoImplicit false
set_option linter.unusedVariables false

theorem mk_get (l : List UInt8) (i : Nat) (h : i < l.length) : (⟨l.toArray⟩ : ByteArray)[i]? = some (l.getD i 0) := by
  rw [ByteArray.getElem?_lt' _ _ (by simpa [ByteArray.size] using h)]
  congr 1
  show l.toArray[i] = _
  simp [List.getD, List.getElem?_eq_getElem h]

theorem evIndex_sound {P : Program} {t x i g} {K : SV → Prop} (h : evIndex P t x i g K) :
    ∃ sv, K sv ∧ ((∀ p, g p → p) → ∀ r β vx vi, Rel r β x vx → Rel r β i vi → ∃ v, Rel r β sv v ∧ ∀ w, (Instr.index t vx vi).run P w = .ok v w) := by
  unfold evIndex at h
  split at h
  · rename_i l k i hu
    refine ⟨_, h.2, fun hv r β vx vi hx hi => ?_⟩
    have hb := (hv _ h.1).h
    cases hx; cases hi
    refine ⟨_, .int, fun w => ?_⟩
    obtain ⟨n, rfl⟩ := Int.eq_ofNat_of_zero_le hb.1
    have hl : n < l.length := by omega
    simp [Instr.index, asIntOf, run_underlying hu, mk_get l n hl]
  · exact h.elim

def OptEv (a : Act) : Option Operand → Option Int → Prop
  | none, none => True
  | some x, some i => ∃ k, a.eval x = .int k i
  | _, _ => False
theorem loK_sound {σ : Env} {ctx : Ctx} {x : Option Operand} {K : Option Int → Prop} (h : loK σ ctx x K) :
    ∃ y, K y ∧ ∀ r β (a : Act) g, Sm r β σ a.tmps ctx g → OptEv a x y := by
  unfold loK at h
  split at h
  · exact ⟨none, h, fun _ _ _ _ _ => trivial⟩
  · obtain ⟨sv, hk, hr⟩ := opK_sound h
    cases sv <;> simp only at hk
    rename_i k i
    refine ⟨some i, hk, fun r β a g sm => ?_⟩
    have := hr r β a g sm
    generalize hq : a.eval _ = v at this
    cases this
    exact ⟨k, hq⟩

theorem run_sliceBound {P : Program} {k : IntKind} {i : Int} {y : Nat} {code : BoundsCode} (h0 : 0 ≤ i) (h1 : i ≤ y) (w : World) :
    (Instr.sliceBound (.int k i) y code).run P w = .ok i.toNat w := by
  simp [Instr.sliceBound, asIntOf, h0, h1]

/-- the bounds that were asked are those of Go -/
theorem run_sliceBounds {P : Program} {s : Bool} {len cap : Nat} {lo hi : Option Value} {a b : Nat} (w : World)
    (hb : match hi with | none => b = len | some v => ∃ k i, v = Value.int k i ∧ 0 ≤ i ∧ i ≤ cap ∧ i.toNat = b)
    (ha : match lo with | none => a = 0 | some v => ∃ k i, v = Value.int k i ∧ 0 ≤ i ∧ i ≤ b ∧ i.toNat = a) :
    (Instr.sliceBounds s len cap lo hi none).run P w = .ok (a, b, cap) w := by
  unfold Instr.sliceBounds
  cases hi with
  | none =>
    cases lo with
    | none => simp at ha hb; subst ha; subst hb; simp
    | some v =>
      obtain ⟨k, i, rfl, h0, h1, rfl⟩ := ha
      simp at hb; subst hb
      simp [run_sliceBound h0 h1]
  | some v =>
    obtain ⟨k, i, rfl, h0, h1, rfl⟩ := hb
    cases lo with
    | none => simp at ha; subst ha; simp [run_sliceBound h0 h1]
    | some v =>
      obtain ⟨k', i', rfl, h0', h1', rfl⟩ := ha
      have h1'' : i' ≤ ((i.toNat : Nat) : Int) := h1'
      simp [run_sliceBound h0 h1, run_sliceBound h0' h1'']

theorem rows_drop_take {α : Type _} (l : List α) (a b i : Nat) (x : α) (h : ((l.take b).drop a)[i]? = some x) : l[a + i]? = some x := by
  rw [List.getElem?_drop, List.getElem?_take] at h
  split at h
  · exact h
  · cases h

theorem sub_rel {r : Mem} {β : Bind} {sz : Nat} {rows : List (List SV)} {a0 : Option Addr} {n cap a b : Nat} (h : Rel r β (.lits sz rows) (.slice a0 n cap)) (hab : a ≤ b) (hb : b ≤ n) :
    Rel r β (.lits sz ((rows.take b).drop a)) (.slice (if cap = a then a0 else a0.map (·.add (a * sz))) (b - a) (cap - a)) := by
  cases h with
  | litsE => 
    have : b - a = 0 := by omega
    rw [this]
    simp
    exact .litsE
  | lits hb' hn hcap hrow ho hc hr =>
    rename_i bl off c T fr
    by_cases h0 : a = b
    · subst h0
      have : (rows.take a).drop a = [] := by
        apply List.drop_eq_nil_of_le; simp; omega
      rw [this, Nat.sub_self]
      exact .litsE
    · have hc0 : ¬ cap = a := by omega
      rw [if_neg hc0]
      have hl : ((rows.take b).drop a).length = b - a := by simp; omega
      have ha : (some (⟨bl, off, none⟩ : Addr)).map (·.add (a * sz)) = some ⟨bl, off + a * sz, none⟩ := by
        simp only [Option.map, Addr.add]
        split
        · rename_i hz; rw [hz]; rfl
        · rfl
      rw [ha]
      have key := Rel.lits (r := r) (β := β) (sz := sz) (rows := (rows.take b).drop a) (b := bl) (off := off + a * sz) (cap := cap - a) (c := c) (T := T) (fr := fr) hb'
        (by rw [hl]; omega) (by rw [hl]; omega) (fun i row hi => hrow _ _ (rows_drop_take _ _ _ _ _ hi)) (fun i row j sv hi hj => ho _ _ _ _ (rows_drop_take _ _ _ _ _ hi) hj)
        (by
          rw [hl]
          have h1 : a * sz + (b - a) * sz = b * sz := by rw [← Nat.add_mul]; congr 1; omega
          have h2 : b * sz ≤ rows.length * sz := Nat.mul_le_mul_right sz hb
          omega)
        (fun i row j sv v hi hj hv => hr _ _ _ _ _ (rows_drop_take _ _ _ _ _ hi) hj (by
          rw [Nat.add_mul]; rw [show off + (a * sz + i * sz) + j = off + a * sz + i * sz + j by omega]; exact hv))
      rw [hl] at key
      exact key

theorem Rel.lits_slice {r β sz rows v} (h : Rel r β (.lits sz rows) v) : ∃ a cap, v = .slice a rows.length cap ∧ rows.length ≤ cap ∧ rows.length ≤ 9223372036854775807 := by
  cases h with
  | litsE => exact ⟨_, _, rfl, by simp, by simp⟩
  | lits hb hn hcap => exact ⟨_, _, rfl, hcap, hn⟩

theorem run_sizeOf {P : Program} {t : TypeId} {i : TypeInfo} (h : P.info? t = some i) (w : World) : (sizeOf t).run P w = .ok i.size w := by
  simp [sizeOf, typeInfo, h]
theorem info_of_underlying {P : Program} {t : TypeId} {d : TypeDesc} (h : P.underlying t = some d) : ∃ i, P.info? t = some i := by
  unfold Program.underlying at h
  split at h
  · rename_i h'; exact ⟨_, h'⟩
  · rename_i h'; exact ⟨_, h'⟩
  · cases h

/-- the value of an optional bound -/
def evalO (a : Act) (x : Option Operand) : Option Value := x.map a.eval

theorem str_sub {l : List UInt8} {a b : Nat} (hab : a ≤ b) (hb : b ≤ l.length) : (ByteArray.mk l.toArray).extract a b = ByteArray.mk ((l.take b).drop a).toArray := by
  rw [ByteArray.extract_mk, List.drop_take]

theorem sizeT_run {P : Program} {e : TypeId} {i : TypeInfo} (h : P.info? e = some i) : sizeT P e = i.size := by simp [sizeT, h]

theorem szOk_spec {P : Program} {e : TypeId} {sz : Nat} (h : szOk P e sz = true) : sizeT P e = sz ∧ P.info? e ≠ none := by
  unfold szOk at h
  unfold sizeT
  split at h
  · rename_i i hi; rw [hi]; exact ⟨beq_of h, by simp⟩
  · cases h

abbrev OptIs (lo : Option Int) (v : Option Value) : Prop :=
  match lo, v with
  | none, none => True
  | some i, some v => ∃ k, v = Value.int k i
  | _, _ => False

theorem evSlice_core {r : Mem} {β : Bind} {P : Program} {t e : TypeId} {rows : List (List SV)} {vx : Value} {vlo vhi : Option Value} {a b : Nat} (hu : P.underlying t = some (.slice e))
    (hi : P.info? e ≠ none) (hx : Rel r β (.lits (sizeT P e) rows) vx)
    (hb : match vhi with | none => b = rows.length | some v => ∃ k i, v = Value.int k i ∧ 0 ≤ i ∧ i ≤ (rows.length : Nat) ∧ i.toNat = b)
    (ha : match vlo with | none => a = 0 | some v => ∃ k i, v = Value.int k i ∧ 0 ≤ i ∧ i ≤ b ∧ i.toNat = a) (hab : a ≤ b) (hbl : b ≤ rows.length) :
    ∃ v, Rel r β (.lits (sizeT P e) ((rows.take b).drop a)) v ∧ ∀ w, (Instr.sliceAt t vx vlo vhi none).run P w = .ok v w := by
  obtain ⟨a0, cap, rfl, hc, _⟩ := hx.lits_slice
  obtain ⟨i, hi⟩ := Option.ne_none_iff_exists'.1 hi
  refine ⟨_, sub_rel hx hab hbl, fun w => ?_⟩
  have hsb := run_sliceBounds (P := P) (s := true) (len := rows.length) (cap := cap) (lo := vlo) (hi := vhi) (a := a) (b := b) w
    (by cases vhi with
        | none => exact hb
        | some v => obtain ⟨k, i, h1, h2, h3, h4⟩ := hb; exact ⟨k, i, h1, h2, by omega, h4⟩) ha
  simp [Instr.sliceAt, Instr.slice, run_underlying hu, hsb, run_sizeOf hi, sizeT_run hi]

theorem evSlice_sound {P : Program} {t x lo hi g} {K : SV → Prop} (h : evSlice P t x lo hi g K) :
    ∃ sv, K sv ∧ ((∀ p, g p → p) → ∀ r β vx vlo vhi, Rel r β x vx → OptIs lo vlo → OptIs hi vhi → ∃ v, Rel r β sv v ∧ ∀ w, (Instr.sliceAt t vx vlo vhi none).run P w = .ok v w) := by
  unfold evSlice at h
  split at h
  · rename_i l hu
    have key : ∀ (vlo vhi : Option Value) (a b : Nat) w, (l.length ≤ 9223372036854775807) →
        (match vhi with | none => b = l.length | some v => ∃ k i, v = Value.int k i ∧ 0 ≤ i ∧ i ≤ l.length ∧ i.toNat = b) →
        (match vlo with | none => a = 0 | some v => ∃ k i, v = Value.int k i ∧ 0 ≤ i ∧ i ≤ b ∧ i.toNat = a) → a ≤ b → b ≤ l.length →
        (Instr.sliceAt t (.string ⟨l.toArray⟩) vlo vhi none).run P w = .ok (.string ⟨((l.take b).drop a).toArray⟩) w := by
      intro vlo vhi a b w hl hb ha hab hbl
      have hsb := run_sliceBounds (P := P) (s := false) (len := l.length) (cap := l.length) (lo := vlo) (hi := vhi) (a := a) (b := b) w hb ha
      have hz : (ByteArray.mk l.toArray).size = l.length := by simp [ByteArray.size]
      simp [Instr.sliceAt, Instr.slice, run_underlying hu, hz, hsb, str_sub hab hbl]
    split at h
    · refine ⟨_, h, fun hv r β vx vlo vhi hx h1 h2 => ?_⟩
      cases hx; rename_i hl
      cases vlo <;> cases vhi <;> simp only [OptIs] at h1 h2
      exact ⟨_, .str hl, fun w => by have := key none none 0 l.length w hl rfl rfl (by omega) (by omega); simpa using this⟩
    · rename_i ia
      refine ⟨_, h.2, fun hv r β vx vlo vhi hx h1 h2 => ?_⟩
      have hb := (hv _ h.1).h
      cases hx; rename_i hl
      cases vlo <;> cases vhi <;> simp only [OptIs] at h1 h2
      obtain ⟨k, rfl⟩ := h1
      refine ⟨_, .str (by simp; omega), fun w => ?_⟩
      have := key (some (.int k ia)) none ia.toNat l.length w hl rfl ⟨k, _, rfl, hb.1, hb.2, rfl⟩ (by omega) (by omega)
      simpa using this
    · rename_i ib
      refine ⟨_, h.2, fun hv r β vx vlo vhi hx h1 h2 => ?_⟩
      have hb := (hv _ h.1).h
      cases hx; rename_i hl
      cases vlo <;> cases vhi <;> simp only [OptIs] at h1 h2
      obtain ⟨k, rfl⟩ := h2
      refine ⟨_, .str (by simp; omega), fun w => ?_⟩
      have := key none (some (.int k ib)) 0 ib.toNat w hl ⟨k, _, rfl, hb.1, hb.2, rfl⟩ rfl (by omega) (by omega)
      simpa using this
    · rename_i ia ib
      refine ⟨_, h.2, fun hv r β vx vlo vhi hx h1 h2 => ?_⟩
      have hb := (hv _ h.1).h
      cases hx; rename_i hl
      cases vlo <;> cases vhi <;> simp only [OptIs] at h1 h2
      obtain ⟨k, rfl⟩ := h1
      obtain ⟨k', rfl⟩ := h2
      refine ⟨_, .str (by simp; omega), fun w => ?_⟩
      exact key (some (.int k ia)) (some (.int k' ib)) ia.toNat ib.toNat w hl ⟨k', _, rfl, by omega, hb.2.2, rfl⟩ ⟨k, _, rfl, hb.1, by omega, rfl⟩ (by omega) (by omega)
  · rename_i e α sz d enc l hu
    cases hz : szOk P e sz with
    | false => rw [hz] at h; exact h.elim
    | true =>
      rw [hz] at h
      obtain ⟨rfl, hi⟩ := szOk_spec hz
      simp only [cond_true] at h
      have core := fun (r : Mem) (β : Bind) vx (hx : Rel r β (.rd (sizeT P e) d enc l) vx) vlo vhi a b =>
        evSlice_core (r := r) (β := β) (rows := l.map enc) (vx := vx) (vlo := vlo) (vhi := vhi) (a := a) (b := b) hu hi (by cases hx; assumption)
      simp only [List.length_map] at core
      split at h
      · refine ⟨_, h, fun hv r β vx vlo vhi hx h1 h2 => ?_⟩
        cases vlo <;> cases vhi <;> simp only [OptIs] at h1 h2
        obtain ⟨v, hr, hw⟩ := core r β vx hx none none 0 l.length rfl rfl (by omega) (by omega)
        exact ⟨v, .rd (by simpa [List.take_of_length_le] using hr), hw⟩
      · rename_i ia
        refine ⟨_, h.2, fun hv r β vx vlo vhi hx h1 h2 => ?_⟩
        have hb := (hv _ h.1).h
        cases vlo <;> cases vhi <;> simp only [OptIs] at h1 h2
        obtain ⟨k, rfl⟩ := h1
        obtain ⟨v, hr, hw⟩ := core r β vx hx (some (.int k ia)) none ia.toNat l.length rfl ⟨k, _, rfl, hb.1, hb.2, rfl⟩ (by omega) (by omega)
        exact ⟨v, .rd (by simpa [List.take_of_length_le, List.map_drop] using hr), hw⟩
      · rename_i ib
        refine ⟨_, h.2, fun hv r β vx vlo vhi hx h1 h2 => ?_⟩
        have hb := (hv _ h.1).h
        cases vlo <;> cases vhi <;> simp only [OptIs] at h1 h2
        obtain ⟨k, rfl⟩ := h2
        obtain ⟨v, hr, hw⟩ := core r β vx hx none (some (.int k ib)) 0 ib.toNat ⟨k, _, rfl, hb.1, hb.2, rfl⟩ rfl (by omega) (by omega)
        exact ⟨v, .rd (by simpa [List.map_take] using hr), hw⟩
      · rename_i ia ib
        refine ⟨_, h.2, fun hv r β vx vlo vhi hx h1 h2 => ?_⟩
        have hb := (hv _ h.1).h
        cases vlo <;> cases vhi <;> simp only [OptIs] at h1 h2
        obtain ⟨k, rfl⟩ := h1
        obtain ⟨k', rfl⟩ := h2
        obtain ⟨v, hr, hw⟩ := core r β vx hx (some (.int k ia)) (some (.int k' ib)) ia.toNat ib.toNat ⟨k', _, rfl, by omega, hb.2.2, rfl⟩ ⟨k, _, rfl, hb.1, by omega, rfl⟩ (by omega) (by omega)
        exact ⟨v, .rd (by simpa [List.map_take, List.map_drop] using hr), hw⟩
  · exact h.elim

end Go.Vc
