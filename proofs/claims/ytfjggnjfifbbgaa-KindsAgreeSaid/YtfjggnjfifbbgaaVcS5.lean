/- A part of the proof: lemmas and walks that the last text of the claim joins; no condition. -/
import Derived.Test.YtfjggnjfifbbgaaVcS4
namespace Go.Vc
set_option autoImplicit false
set_option linter.unusedVariables false

theorem Rel.agg_inv {r β l v} (h : Rel r β (.agg l) v) : ∃ cs : List Value, v = .agg cs.toArray ∧ RelL r β l cs := by
  cases h with
  | agg hl h => exact ⟨_, rfl, hl, h⟩

theorem evField_sound {P : Program} {t x f} {K : SV → Prop} (h : evField P t x f K) :
    ∃ sv, K sv ∧ ∀ r β vx, Rel r β x vx → ∃ v, Rel r β sv v ∧ ∀ w, (Instr.field t vx f).run P w = .ok v w := by
  unfold evField at h
  split at h
  · rename_i fs cs hu
    split at h
    · rename_i fd hn
      obtain ⟨sv, hk, hr⟩ := partK_sound h
      refine ⟨sv, hk, fun r β vx hx => ?_⟩
      obtain ⟨vs, rfl, hl⟩ := hx.agg_inv
      obtain ⟨v, hv, hw, _⟩ := hr r β vs hl
      refine ⟨v, hv, fun w => ?_⟩
      rw [nth_eq] at hn
      have hn' : (⟨fs⟩ : Array Field)[f]? = some fd := by simpa using hn
      simp only [Instr.field, Sem.run_bind, run_underlying hu, Result.andThen_ok, hn', asAgg, Sem.run_pure, hw]
    · exact h.elim
  · exact h.elim

theorem pureK_sound {sv : SV} {K : SV → Prop} (h : pureK sv K) : K sv ∧ sv.okIds (fun _ => false) = true := by
  unfold pureK at h
  cases ho : sv.okIds (fun _ => false) with
  | true => rw [ho] at h; exact ⟨h, rfl⟩
  | false => rw [ho] at h; exact h.elim

theorem Rel.pure {r β sv v} (h : Rel r β sv v) (ho : sv.okIds (fun _ => false) = true) (β' : Bind) : Rel r β' sv v :=
  h.bind (p := fun _ => false) (by intro _ h; cases h) ho

theorem cell_of_block {w : World} {b : Nat} {c : Array Value} {T fr} (h : w.heap[b]? = some (.cells c T fr)) (off : Nat) : w.cell? ⟨b, off, none⟩ = c[off]? := by
  simp [World.cell?, h]

/-- a row of a readable slice, as values -/
theorem row_vals {α : Type} {r : Mem} {sz : Nat} {enc : α → List SV} {d : α} {l : List α} {i : Nat} (hi : i < l.length) {c : Array Value} {off : Nat}
    (hrow : ∀ (i : Nat) (row : List SV), (l.map enc)[i]? = some row → row.length = sz)
    (hc : off + l.length * sz ≤ c.size)
    (hr : ∀ (i : Nat) (row : List SV) (j : Nat) (sv : SV) (v : Value), (l.map enc)[i]? = some row → row[j]? = some sv → c[off + i * sz + j]? = some v → Rel r β0 sv v) :
    ∃ vs : List Value, RelL r β0 (enc (l.getD i d)) vs ∧ ∀ (j : Nat) u, vs[j]? = some u → c[off + i * sz + j]? = some u := by
  have hg : l.getD i d = l[i] := by simp [List.getD, List.getElem?_eq_getElem hi]
  have hm : (l.map enc)[i]? = some (enc (l.getD i d)) := by simp [List.getElem?_eq_getElem hi]
  have hlen := hrow _ _ hm
  have hb : ∀ j, j < sz → off + i * sz + j < c.size := by
    intro j hj
    have : (i + 1) * sz ≤ l.length * sz := Nat.mul_le_mul_right sz hi
    rw [Nat.add_mul] at this
    omega
  refine ⟨(List.range sz).map fun j => c.getD (off + i * sz + j) undef, ⟨by rw [hlen]; simp, fun j sv v q1 q2 => ?_⟩, fun j u q => ?_⟩
  · simp only [List.getElem?_map] at q2
    by_cases hj : j < sz
    · simp only [List.getElem?_range hj, Option.map_some, Option.some.injEq] at q2
      refine hr _ _ _ _ _ hm q1 ?_
      rw [← q2, Array.getD_eq_getD_getElem?, Array.getElem?_eq_getElem (hb j hj)]
      rfl
    · rw [List.getElem?_eq_none (by simpa using Nat.le_of_not_lt hj)] at q2
      cases q2
  · simp only [List.getElem?_map] at q
    by_cases hj : j < sz
    · simp only [List.getElem?_range hj, Option.map_some, Option.some.injEq] at q
      rw [← q, Array.getD_eq_getD_getElem?, Array.getElem?_eq_getElem (hb j hj)]
      rfl
    · rw [List.getElem?_eq_none (by simpa using Nat.le_of_not_lt hj)] at q
      cases q

theorem lits_bound {r β sz rows b off n cap} (h : Rel r β (.lits sz rows) (.slice (some ⟨b, off, none⟩) n cap)) (hn : 0 < rows.length) :
    ∃ c T fr, r b = some (.cells c T fr) ∧ n = rows.length ∧ off + rows.length * sz ≤ c.size ∧ (∀ (i : Nat) (row : List SV), rows[i]? = some row → row.length = sz) ∧
      (∀ (i : Nat) (row : List SV) (j : Nat) (sv : SV) (v : Value), rows[i]? = some row → row[j]? = some sv → c[off + i * sz + j]? = some v → Rel r β0 sv v) := by
  cases h with
  | litsE => simp at hn
  | lits hb h1 hcap hrow ho hc hr =>
    rename_i c T fr
    exact ⟨c, T, fr, hb, rfl, hc, hrow, hr⟩

theorem nbeq_of {a b : Nat} (h : a ≠ b) : Nat.beq a b = false := by
  cases hb : Nat.beq a b with
  | true => exact (h (beq_of hb)).elim
  | false => rfl

/-- A world that differs from w0 in nothing that is known. -/
structure Near (r : Mem) (β : Bind) (Φ : Phi) (w0 w : World) : Prop where
  mem : MemSat r β Φ w
  same : ∀ id ch b, Φ.get id = some ch → ch.blk (β id) = some b → w.heap[b]? = w0.heap[b]?
  hid : Hid r β Φ w0 r β Φ w

theorem add_mk (b off n : Nat) : (⟨b, off, none⟩ : Addr).add n = ⟨b, off + n, none⟩ := by
  simp only [Addr.add]
  split
  · rename_i h; subst h; rfl
  · rfl

theorem toList_rel {r : Mem} {β : Bind} {cells : List SV} {c : Array Value} (hl : c.size = cells.length) (h : ∀ (i : Nat) (sv : SV) (v : Value), cells[i]? = some sv → c[i]? = some v → Rel r β sv v) : RelL r β cells c.toList :=
  ⟨by simpa using hl, fun i sv v q1 q2 => h i sv v q1 (by simpa using q2)⟩

theorem run_loadAt {P : Program} {t : TypeId} {a : Addr} {w : World} {v : Value} (h : (loadVar t a).run P w = .ok v w) : (Instr.loadAt t (.pointer (some a))).run P w = .ok v w := by
  simp only [Instr.loadAt, Sem.run_bind, Instr.sureAddr, Sem.run_pure, Result.andThen_ok, h]

theorem evLoad_sound {P : Program} {Φ : Phi} {t x g} {K : SV → Prop} (h : evLoad P Φ t x g K) :
    ∃ sv, K sv ∧ ((∀ p, g p → p) → ∀ r β vx, Rel r β x vx → ∀ w0, MemSat r β Φ w0 → ∃ v, Rel r β sv v ∧ ∀ w, Near r β Φ w0 w → (Instr.loadAt t vx).run P w = .ok v w) := by
  unfold evLoad at h
  split at h
  · rename_i id off
    split at h
    · rename_i cs hg
      obtain ⟨sv, hk, hr⟩ := partK_sound h
      refine ⟨sv, hk, fun hv r β vx hx w0 m => ?_⟩
      cases hx with
      | loc hβ =>
        rename_i b
        have hs := m.rows hg
        cases hs with
        | box hxb hw hl hc =>
          rename_i b' c T
          rw [hβ] at hxb
          obtain rfl : b = b' := by simpa using hxb
          obtain ⟨v, hrel, _, hload⟩ := hr r β c.toList (toList_rel hl hc)
          refine ⟨v, hrel, fun w hn => run_loadAt ?_⟩
          have hw' : w.heap[b]? = some (.cells c T (0, 0)) := by rw [hn.same id _ b hg (by rw [hβ]; rfl)]; exact hw
          have := hload w b 0 (fun j u hj => by rw [cell_of_block hw']; simpa using hj)
          simpa using this
    · exact h.elim
  · rename_i α sz d enc l i off
    obtain ⟨sv, hk, hr⟩ := partK_sound h
    obtain ⟨hk, ho⟩ := pureK_sound hk
    refine ⟨sv, hk, fun hv r β vx hx w0 m => ?_⟩
    cases hx with
    | el hx hi =>
      rename_i b off0 n cap
      obtain ⟨c, T, fr, hb, _, hc, hrow, hrr⟩ := lits_bound hx (by simpa using Nat.lt_of_le_of_lt (Nat.zero_le _) hi)
      obtain ⟨vs, hvs, hcell⟩ := row_vals (d := d) hi hrow (by simpa using hc) hrr
      obtain ⟨v, hrel, _, hload⟩ := hr r β0 vs hvs
      refine ⟨v, hrel.pure ho β, fun w hn => run_loadAt ?_⟩
      exact hload w b (off0 + i * sz) (fun j u hj => by rw [cell_of_block (hn.mem.vis _ _ hb)]; exact hcell _ _ hj)
  · rename_i id sz0 i off
    split at h
    · rename_i α sz d enc l hg
      cases hz0 : Nat.beq sz0 sz with
      | false => rw [hz0] at h; exact h.elim
      | true =>
      rw [hz0] at h
      obtain rfl := beq_of hz0
      obtain ⟨sv, hk, hr⟩ := partK_sound h.2
      obtain ⟨hk, ho⟩ := pureK_sound hk
      refine ⟨sv, hk, fun hv r β vx hx w0 m => ?_⟩
      have hi := (hv _ h.1).h
      cases hx with
      | oel hβ =>
        rename_i b off0 n cap
        have hs := m.rows hg
        cases hs with
        | own hs =>
          rcases hs with ⟨a, _, he⟩ | ⟨b', off', cap', c, T, fr, he, hcap0, hw, _, _, hcap, hsz, hrow, _, hrr⟩
          · simp at he; subst he; simp at hi
          · rw [he] at hβ
            simp only [Value.slice.injEq, Option.some.injEq, Addr.mk.injEq] at hβ
            obtain ⟨⟨rfl, rfl, _⟩, _, _⟩ := hβ
            have hb2 : off' + l.length * sz0 ≤ c.size := by
              have := Nat.mul_le_mul_right sz0 hcap
              simp at this
              omega
            obtain ⟨vs, hvs, hcell⟩ := row_vals (d := d) hi hrow hb2 hrr
            obtain ⟨v, hrel, _, hload⟩ := hr r β0 vs hvs
            refine ⟨v, hrel.pure ho β, fun w hn => run_loadAt ?_⟩
            have hblk : (Chunk.own sz0 d enc l).blk (β id) = some b' := by
              rw [he]
              simp only [Chunk.blk]
              have : Nat.beq cap' 0 = false := nbeq_of hcap0
              rw [this]; rfl
            have hw' : w.heap[b']? = some (.cells c T fr) := by rw [hn.same id _ b' hg hblk]; exact hw
            exact hload w b' (off' + i * sz0) (fun j u hj => by rw [cell_of_block hw']; exact hcell _ _ hj)
    · exact h.elim
  · exact h.elim

theorem evFieldAddr_sound {P : Program} {t x f} {K : SV → Prop} (h : evFieldAddr P t x f K) :
    ∃ sv, K sv ∧ ∀ r β vx, Rel r β x vx → ∃ v, Rel r β sv v ∧ ∀ w, (Instr.fieldAt t vx f).run P w = .ok v w := by
  unfold evFieldAddr at h
  split at h
  · rename_i fs hu
    split at h
    · rename_i fd hn
      rw [nth_eq] at hn
      have hn' : (⟨fs⟩ : Array Field)[f]? = some fd := by simpa using hn
      cases hz : Nat.beq (sizeT P fd.type) 0 with
      | true => rw [hz] at h; exact h.elim
      | false =>
        rw [hz] at h
        have hz' : sizeT P fd.type ≠ 0 := by
          intro h0; rw [h0] at hz; cases hz
        obtain ⟨i, hi⟩ : ∃ i, P.info? fd.type = some i := by
          unfold sizeT at hz'
          cases hq : P.info? fd.type with
          | none => rw [hq] at hz'; exact (hz' rfl).elim
          | some i => exact ⟨i, rfl⟩
        rw [sizeT_run hi] at hz'
        have run : ∀ b off w, (Instr.fieldAt t (.pointer (some ⟨b, off, none⟩)) f).run P w = .ok (.pointer (some ⟨b, off + fd.offset, none⟩)) w := by
          intro b off w
          simp only [Instr.fieldAt, Sem.run_bind, run_underlying hu, Result.andThen_ok, hn', Instr.sureAddr, Sem.run_pure, fieldPlace, run_sizeOf hi, if_neg hz', add_mk]
        simp only [cond_false] at h
        split at h
        · refine ⟨_, h, fun r β vx hx => ?_⟩
          cases hx with
          | loc hβ => exact ⟨_, .loc hβ, run _ _⟩
        · refine ⟨_, h, fun r β vx hx => ?_⟩
          cases hx with
          | el hx hi =>
            refine ⟨_, .el hx hi, fun w => ?_⟩
            rw [run]
            simp only [Nat.add_assoc]; rfl
        · refine ⟨_, h, fun r β vx hx => ?_⟩
          cases hx with
          | oel hβ =>
            refine ⟨_, .oel hβ, fun w => ?_⟩
            rw [run]
            simp only [Nat.add_assoc]; rfl
        · exact h.elim
    · exact h.elim
  · exact h.elim

theorem lits_addr {r β sz rows v} (h : Rel r β (.lits sz rows) v) (hn : 0 < rows.length) : ∃ b off cap, v = .slice (some ⟨b, off, none⟩) rows.length cap := by
  cases h with
  | litsE => simp at hn
  | lits => exact ⟨_, _, _, rfl⟩

theorem evIndexAddr_sound {P : Program} {Φ : Phi} {t x i g} {K : SV → Prop} (h : evIndexAddr P Φ t x i g K) :
    ∃ sv, K sv ∧ ((∀ p, g p → p) → ∀ r β vx vi, Rel r β x vx → Rel r β i vi → ∀ w0, MemSat r β Φ w0 → ∃ v, Rel r β sv v ∧ ∀ w, (Instr.indexAt t vx vi).run P w = .ok v w) := by
  have run : ∀ {e : TypeId} (hu : P.underlying t = some (.slice e)) (hi : P.info? e ≠ none) (k : IntKind) (i : Int) b off (n cap : Nat) (h0 : 0 ≤ i) (h1 : i < n) (w : World),
      (Instr.indexAt t (.slice (some ⟨b, off, none⟩) n cap) (.int k i)).run P w = .ok (.pointer (some ⟨b, off + i.toNat * sizeT P e, none⟩)) w := by
    intro e hu hi k i b off n cap h0 h1 w
    obtain ⟨inf, hinf⟩ := Option.ne_none_iff_exists'.1 hi
    simp only [Instr.indexAt, Sem.run_bind, asIntOf, Sem.run_pure, Result.andThen_ok, run_underlying hu, Sem.run_ite, h0, h1, and_self, if_true, run_sizeOf hinf, sizeT_run hinf, add_mk]
  unfold evIndexAddr at h
  split at h
  · rename_i e α sz d enc l k i hu
    cases hz : szOk P e sz with
    | false => rw [hz] at h; exact h.elim
    | true =>
      rw [hz] at h
      obtain ⟨rfl, hi⟩ := szOk_spec hz
      refine ⟨_, h.2, fun hv r β vx vi hx hi' w0 m => ?_⟩
      have hb := (hv _ h.1).h
      cases hi'
      cases hx with
      | rd hx =>
        have h1 : i < ((l.map enc).length : Nat) := by simpa using hb.2
        obtain ⟨b, off, cap, rfl⟩ := lits_addr hx (by omega)
        refine ⟨_, .el hx (by omega), fun w => ?_⟩
        rw [run hu hi k i _ _ _ _ hb.1 h1]
        rfl
  · rename_i e id k i hu
    split at h
    · rename_i α sz d enc l hg
      cases hz : szOk P e sz with
      | false => rw [hz] at h; exact h.elim
      | true =>
        rw [hz] at h
        obtain ⟨rfl, hi⟩ := szOk_spec hz
        refine ⟨_, h.2, fun hv r β vx vi hx hi' w0 m => ?_⟩
        have hb := (hv _ h.1).h
        cases hi'
        cases hx
        have hs := m.rows hg
        cases hs with
        | own hs =>
          rcases hs with ⟨a, _, he⟩ | ⟨b', off', cap', c, T, fr, he, _⟩
          · simp at he; subst he; simp at hb; omega
          · rw [he]
            have h1 : i < ((l.map enc).length : Nat) := by simpa using hb.2
            refine ⟨_, .oel he, fun w => ?_⟩
            rw [run hu hi k i _ _ _ _ hb.1 h1]
            rfl
    · exact h.elim
  · exact h.elim

end Go.Vc
