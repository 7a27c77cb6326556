/- A part of the proof: lemmas and walks that the last text of the claim joins; no condition. -/
import Derived.Test.YtfjggnjfifbbgaaVcE2
namespace Go.Vc
set_option autoImplicit false
set_option linter.unusedVariables false

theorem lt_len {α : Type _} {l : List α} {i : Nat} {x : α} (h : l[i]? = some x) : i < l.length := by
  rcases Nat.lt_or_ge i l.length with h' | h'
  · exact h'
  · rw [List.getElem?_eq_none h'] at h; cases h

/-- rows that lie in a block, as the cells that an append takes -/
theorem rows_news {P : Program} {r : Mem} {w : World} {sz : Nat} {rows : List (List SV)} {b off cap : Nat} {c : Array Value} {T : TypeId} {fr : Nat × Nat}
    (hw : w.heap[b]? = some (.cells c T fr)) (hc : off + rows.length * sz ≤ c.size)
    (hrow : ∀ (i : Nat) (row : List SV), rows[i]? = some row → row.length = sz)
    (hone : ∀ (i : Nat) (row : List SV) (j : Nat) (sv : SV), rows[i]? = some row → row[j]? = some sv → sv.one = true)
    (hrel : ∀ (i : Nat) (row : List SV) (j : Nat) (sv : SV) (v : Value), rows[i]? = some row → row[j]? = some sv → c[off + i * sz + j]? = some v → Rel r β0 sv v) :
    ∃ news, NewRows r sz rows.length rows news ∧ ∀ w', w'.heap = w.heap → (Builtin.firstCells sz rows.length (.slice (some ⟨b, off, none⟩) rows.length cap)).run P w' = .ok news.toArray w' := by
  have hbnd : ∀ j, j < rows.length * sz → off + j < c.size := by intro j hj; omega
  have get : ∀ (j : Nat) (u : Value), ((List.range (rows.length * sz)).map fun j => c.getD (off + j) undef)[j]? = some u → j < rows.length * sz ∧ c[off + j]? = some u := by
    intro j u h
    have hlt : j < rows.length * sz := by have := lt_len h; simpa using this
    rw [List.getElem?_map, List.getElem?_range hlt] at h
    simp only [Option.map_some, Option.some.injEq] at h
    refine ⟨hlt, ?_⟩
    rw [← h, Array.getD_eq_getD_getElem?, Array.getElem?_eq_getElem (hbnd _ hlt)]
    rfl
  refine ⟨(List.range (rows.length * sz)).map fun j => c.getD (off + j) undef, ⟨rfl, by simp, hrow, fun i row j sv v h1 h2 h3 => ?_, hone, fun v hv => ?_⟩, fun w' hw' => ?_⟩
  · have := (get _ _ h3).2
    rw [← Nat.add_assoc] at this
    exact hrel _ _ _ _ _ h1 h2 this
  · obtain ⟨k, hk, rfl⟩ := List.getElem_of_mem hv
    obtain ⟨hlt, hcv⟩ := get k _ (List.getElem?_eq_getElem hk)
    have hsz : 0 < sz := by
      rcases Nat.eq_zero_or_pos sz with h | h
      · subst h; simp at hlt
      · exact h
    have hi : k / sz < rows.length := (Nat.div_lt_iff_lt_mul hsz).2 hlt
    have h1 : rows[k / sz]? = some rows[k / sz] := List.getElem?_eq_getElem hi
    have hrl := hrow _ _ h1
    have hj : k % sz < rows[k / sz].length := by rw [hrl]; exact Nat.mod_lt _ hsz
    have h2 : rows[k / sz][k % sz]? = some rows[k / sz][k % sz] := List.getElem?_eq_getElem hj
    have e : k / sz * sz + k % sz = k := by rw [Nat.mul_comm]; exact Nat.div_add_mod k sz
    exact (hrel _ _ _ _ _ h1 h2 (by rw [Nat.add_assoc, e]; exact hcv)).oneCell (hone _ _ _ _ h1 h2)
  · have hw'' : w'.heap[b]? = some (.cells c T fr) := by rw [hw']; exact hw
    have := run_loadCells (P := P) w' ⟨b, off, none⟩ (rows.length * sz) (fun j => c.getD (off + j) undef) (fun j hj => by
      rw [add_mk, cell_of_block hw'']
      simp [Array.getD_eq_getD_getElem?, hbnd j hj])
    simp only [Builtin.firstCells, this]

theorem news_empty {P : Program} {r : Mem} {w : World} {sz : Nat} (a : Option Addr) (cap : Nat) :
    ∃ news, NewRows r sz 0 [] news ∧ ∀ w', w'.heap = w.heap → (Builtin.firstCells sz 0 (.slice a 0 cap)).run P w' = .ok news.toArray w' := by
  refine ⟨[], ⟨rfl, by simp, fun i row h => by simp at h, fun i row j sv v h => by simp at h, fun i row j sv h => by simp at h, fun v hv => by cases hv⟩, fun w' _ => ?_⟩
  cases a <;> simp [Builtin.firstCells, loadCells, loadCellsFrom]

theorem lits_news {P : Program} {r : Mem} {β : Bind} {w : World} {sz : Nat} {rows : List (List SV)} {x : Value} (h : Rel r β (.lits sz rows) x) (hvis : ∀ b o, r b = some o → w.heap[b]? = some o) :
    ∃ news, NewRows r sz rows.length rows news ∧ (∀ w', (Builtin.lenOf x).run P w' = .ok rows.length w') ∧ ∀ w', w'.heap = w.heap → (Builtin.firstCells sz rows.length x).run P w' = .ok news.toArray w' := by
  cases h with
  | litsE => obtain ⟨news, h1, h2⟩ := news_empty (P := P) (r := r) (w := w) (sz := sz) _ _; exact ⟨news, h1, fun w' => rfl, h2⟩
  | lits hb hn hcap hrow ho hc hr =>
    rename_i b off cap c T fr
    obtain ⟨news, h1, h2⟩ := rows_news (P := P) (cap := cap) (hvis _ _ hb) hc hrow ho hr
    exact ⟨news, h1, fun w' => rfl, h2⟩

theorem rowsAt_news {P : Program} {r : Mem} {w : World} {sz : Nat} {rows : List (List SV)} {x : Value} (h : RowsAt r w x sz rows) :
    ∃ news, NewRows r sz rows.length rows news ∧ (∀ w', (Builtin.lenOf x).run P w' = .ok rows.length w') ∧ ∀ w', w'.heap = w.heap → (Builtin.firstCells sz rows.length x).run P w' = .ok news.toArray w' := by
  rcases h with ⟨a, rfl, rfl⟩ | ⟨b, off, cap, c, T, fr, rfl, hc0, hw, hfr, hm1, hcap, hszc, hrow, hone, hrel⟩
  · obtain ⟨news, h1, h2⟩ := news_empty (P := P) (r := r) (w := w) (sz := sz) a 0; exact ⟨news, h1, fun w' => rfl, h2⟩
  · have : off + rows.length * sz ≤ c.size := by have := Nat.mul_le_mul_right sz hcap; omega
    obtain ⟨news, h1, h2⟩ := rows_news (P := P) (cap := cap) hw this hrow hone hrel
    exact ⟨news, h1, fun w' => rfl, h2⟩

theorem str_news {P : Program} {r : Mem} {w : World} (l : List UInt8) :
    ∃ news, NewRows r 1 l.length (l.map byteRow) news ∧ (∀ w', (Builtin.lenOf (.string ⟨l.toArray⟩)).run P w' = .ok l.length w') ∧ ∀ w', w'.heap = w.heap → (Builtin.firstCells 1 l.length (.string ⟨l.toArray⟩)).run P w' = .ok news.toArray w' := by
  refine ⟨l.map fun b => .int .u8 b.toNat, ⟨by simp, by simp, fun i row h => ?_, fun i row j sv v h1 h2 h3 => ?_, fun i row j sv h1 h2 => ?_, fun v hv => ?_⟩, fun w' => by simp [Builtin.lenOf, ByteArray.size], fun w' _ => ?_⟩
  · rw [List.getElem?_map] at h
    cases hq : l[i]? with
    | none => rw [hq] at h; cases h
    | some b => rw [hq] at h; simp at h; subst h; rfl
  · rw [List.getElem?_map] at h1
    cases hq : l[i]? with
    | none => rw [hq] at h1; cases h1
    | some b =>
      rw [hq] at h1
      simp at h1
      subst h1
      cases j with
      | zero =>
        simp [byteRow] at h2
        subst h2
        rw [List.getElem?_map] at h3
        simp only [Nat.mul_one, Nat.add_zero, hq, Option.map_some, Option.some.injEq] at h3
        subst h3
        exact .int
      | succ j => simp [byteRow] at h2
  · rw [List.getElem?_map] at h1
    cases hq : l[i]? with
    | none => rw [hq] at h1; cases h1
    | some b =>
      rw [hq] at h1
      simp at h1
      subst h1
      cases j with
      | zero => simp [byteRow] at h2; subst h2; rfl
      | succ j => simp [byteRow] at h2
  · obtain ⟨b, _, rfl⟩ := List.mem_map.1 hv; rfl
  · have : (ByteArray.mk l.toArray).extract 0 l.length = ByteArray.mk l.toArray := by rw [ByteArray.extract_mk]; simp
    simp [Builtin.firstCells, this]

theorem rowsK_sound {P : Program} {Φ : Phi} {e : TypeId} {x : SV} {K : Nat → List (List SV) → Prop} (h : rowsK P Φ e x K) :
    ∃ m rows, K m rows ∧ ∀ r β w xv, Rel r β x xv → MemSat r β Φ w → ∀ i, P.info? e = some i → ∃ news, NewRows r i.size m rows news ∧ (∀ w', (Builtin.lenOf xv).run P w' = .ok m w') ∧
      (∀ w', w'.heap = w.heap → (Builtin.firstCells i.size m xv).run P w' = .ok news.toArray w') := by
  have sz : ∀ {s : Nat} {i : TypeInfo}, szOk P e s = true → P.info? e = some i → i.size = s := by
    intro s i h1 h2
    have := (szOk_spec h1).1
    rw [sizeT_run h2] at this; exact this
  unfold rowsK at h
  split at h
  · rename_i s rows
    cases hz : szOk P e s with
    | false => rw [hz] at h; exact h.elim
    | true =>
      rw [hz] at h
      refine ⟨_, _, h, fun r β w xv hx m i hi => ?_⟩
      rw [sz hz hi]
      exact lits_news hx m.vis
  · rename_i α s d enc l
    cases hz : szOk P e s with
    | false => rw [hz] at h; exact h.elim
    | true =>
      rw [hz] at h
      refine ⟨_, _, h, fun r β w xv hx m i hi => ?_⟩
      rw [sz hz hi]
      cases hx with
      | rd hx => have := lits_news (P := P) hx m.vis; simpa using this
  · refine ⟨_, _, h, fun r β w xv hx m i hi => ?_⟩
    cases hx
    obtain ⟨news, h1, h2⟩ := news_empty (P := P) (r := r) (w := w) (sz := i.size) none 0
    exact ⟨news, h1, fun w' => rfl, h2⟩
  · rename_i l
    cases hz : szOk P e 1 with
    | false => rw [hz] at h; exact h.elim
    | true =>
      rw [hz] at h
      refine ⟨_, _, h, fun r β w xv hx m i hi => ?_⟩
      rw [sz hz hi]
      cases hx
      exact str_news l
  · rename_i id
    split at h
    · rename_i α s d enc l hg
      cases hz : szOk P e s with
      | false => rw [hz] at h; exact h.elim
      | true =>
        rw [hz] at h
        refine ⟨_, _, h, fun r β w xv hx m i hi => ?_⟩
        rw [sz hz hi]
        cases hx
        have hs := m.rows hg
        cases hs with
        | own hs => have := rowsAt_news (P := P) hs; simpa using this
    · rename_i s rows hg
      cases hz : szOk P e s with
      | false => rw [hz] at h; exact h.elim
      | true =>
        rw [hz] at h
        refine ⟨_, _, h, fun r β w xv hx m i hi => ?_⟩
        rw [sz hz hi]
        cases hx
        have hs := m.rows hg
        cases hs with
        | ownl hs => exact rowsAt_news hs
    · exact h.elim
  · exact h.elim

theorem RowsAt.oneCell {r w x sz rows} (h : RowsAt r w x sz rows) : x.oneCell' = true := by
  obtain ⟨a, cap, rfl, _⟩ := h.slice; rfl

theorem zero_of_run {P : Program} {el : TypeId} {i : TypeInfo} {zv : Value} {w : World} (hi : P.info? el = some i) (h : (zeroValue el).run P w = .ok zv w) : i.zero = some zv := by
  cases hq : i.zero with
  | none => simp [zeroValue, typeInfo, hi, hq] at h
  | some z0 => simp [zeroValue, typeInfo, hi, hq] at h; rw [h]

theorem own_rel {r β id v} (h : Value.oneCell' v = true) : Rel r (setB β id v) (.own id) v := by
  have hs := setB_self β id v
  have q := Rel.own (r := r) (β := setB β id v) (id := id) (by rw [hs]; exact h)
  rwa [hs] at q

theorem appendK_sound {B : Base} {e N r β σ Φ a w n ts tx ty} {s x : SV} {vs vx : Value} {K : EK} (h : appendK B.P ts tx s x σ Φ n K) (st : Sat B e N r β σ Φ a w) (hs : Rel r β s vs) (hx : Rel r β x vx) :
    ∃ sv σ' Φ' n' v w' β', K sv σ' Φ' n' ∧ (Builtin.append_ #[ts, tx] ty #[vs, vx]).run B.P w = .ok v w' ∧ Rel r β' sv v ∧ Sat B e N r β' σ' Φ' a w' ∧ (∀ D, GdIn D σ → GdIn D σ') := by
  unfold appendK at h
  split at h
  · rename_i el dx hts htx
    cases hc : (!appendK.isSrcD dx || Nat.beq (sizeT B.P el) 0) with
    | true => rw [hc] at h; exact h.elim
    | false =>
    rw [hc] at h
    simp only [Bool.or_eq_false_iff, Bool.not_eq_false'] at hc
    obtain ⟨hc1, hc2⟩ := hc
    have hsrc : dx = .string ∨ ∃ e', dx = .slice e' := by
      cases dx <;> first | (cases hc1; done) | exact .inl rfl | exact .inr ⟨_, rfl⟩
    simp only [cond_false] at h
    obtain ⟨z, zv, h, hz1, _, hzrun, hzrel⟩ := zeroK_sound h
    cases hz2 : Nat.beq (len z) (sizeT B.P el) with
    | false => rw [hz2] at h; exact h.elim
    | true =>
    rw [hz2] at h
    simp only [cond_true] at h
    have hzl := beq_of hz2
    rw [len_eq] at hzl
    obtain ⟨i, hi⟩ : ∃ i, B.P.info? el = some i := by
      unfold sizeT at hc2
      cases hq : B.P.info? el with
      | none => rw [hq] at hc2; cases hc2
      | some i => exact ⟨i, rfl⟩
    rw [sizeT_run hi] at hc2 hzl
    have hsz : i.size ≠ 0 := by intro h0; rw [h0] at hc2; cases hc2
    have hby : bytesT B.P el = i.bytes := by simp [bytesT, hi]
    obtain ⟨z0, hz0, hzc⟩ : ∃ z0, i.zero = some z0 ∧ z0.cells.size = i.size := by
      refine ⟨zv, zero_of_run hi (hzrun w), ?_⟩
      have := (hzrel r β).1
      simp at this
      omega
    split at h
    · -- to a nil slice
      cases hs
      have go : ∀ {m : Nat} {rows : List (List SV)} {news : List Value} {ch : Chunk}, NewRows r i.size m rows news → (∀ w', (Builtin.lenOf vx).run B.P w' = .ok m w') →
          (∀ w', w'.heap = w.heap → (Builtin.firstCells i.size m vx).run B.P w' = .ok news.toArray w') → (m * i.bytes ≤ 70368744177664 ∧ m ≤ 70368744177664) →
          (∀ β w' x, RowsAt r w' x i.size rows → ch.Sat r β w' x) → (∀ x, ch.blk x = blkOf x) → newChK n ch (.own n) σ Φ K →
          ∃ sv σ' Φ' n' v w' β', K sv σ' Φ' n' ∧ (Builtin.append_ #[ts, tx] ty #[.slice none 0 0, vx]).run B.P w = .ok v w' ∧ Rel r β' sv v ∧ Sat B e N r β' σ' Φ' a w' ∧ (∀ D, GdIn D σ → GdIn D σ') := by
        intro m rows news ch nr hlen hnews hob hch hcb h
        obtain ⟨v', w', hr, q1, q2, q3, q4, q5, q6, q7⟩ := run_append (P := B.P) (ty := ty) (v := .slice none 0 0) (rows := []) hts htx hsrc hi hz0 hzc hsz (.inl ⟨none, rfl, rfl⟩) nr hlen hnews (by simpa using hob.1) (by simpa using hob.2)
        have hg : Grows w w' := ⟨q2, q3, q4, q5, fun b hb => q6 b hb (by simp [blkOf])⟩
        have hblk : ∀ b, blkOf v' = some b → w.heap.size ≤ b := by
          intro b hb
          rcases q7 b hb with h | h
          · simp [blkOf] at h
          · exact h
        simp only [List.nil_append] at q1
        obtain ⟨sv, σ', Φ', n', hk, rfl, β', hr', hsat⟩ := newChK_sound h st hg (v := v') (fun b hb => hblk b (by rw [← hcb]; exact hb)) (hch _ _ _ q1) (own_rel q1.oneCell)
        exact ⟨sv, σ', Φ', n', v', w', β', hk, hr, hr', hsat, fun D hD => hD⟩
      split at h
      · rename_i α sz d enc l _
        cases hz3 : szOk B.P el sz with
        | false => rw [hz3] at h; exact h.elim
        | true =>
          rw [hz3] at h
          have hsz3 : i.size = sz := by
            have := (szOk_spec hz3).1
            rw [sizeT_run hi] at this; exact this
          subst hsz3
          obtain ⟨hob, h⟩ := h
          have hob := hob.h
          rw [hby] at hob
          cases hx with
          | rd hx =>
            obtain ⟨news, nr, hlen, hnews⟩ := lits_news (P := B.P) hx st.mem.vis
            simp only [List.length_map] at nr hlen hnews
            exact go nr hlen hnews hob (fun β w' x h => .own h) (fun x => blk_own_eq _ _ _ _ _) h
      · obtain ⟨m, rows, h, hrows⟩ := rowsK_sound h
        obtain ⟨news, nr, hlen, hnews⟩ := hrows r β w vx hx st.mem i hi
        obtain ⟨hob, h⟩ := h
        have hob := hob.h
        rw [hby] at hob
        rw [sizeT_run hi] at h
        exact go nr hlen hnews hob (fun β w' x h => .ownl h) (fun x => blk_ownl_eq _ _ _) h
    · rename_i id _
      obtain ⟨m, rows, h, hrows⟩ := rowsK_sound h
      obtain ⟨news, nr, hlen, hnews⟩ := hrows r β w vx hx st.mem i hi
      split at h
      · rename_i α sz d enc l hg
        cases hz3 : szOk B.P el sz with
        | false => rw [hz3] at h; exact h.elim
        | true =>
          rw [hz3] at h
          obtain ⟨hob, as, has, h⟩ := h
          have hob := hob.h
          rw [hby] at hob
          have hsz3 : i.size = sz := by
            have := (szOk_spec hz3).1
            rw [sizeT_run hi] at this; exact this
          subst hsz3
          obtain ⟨σ', h, hσ⟩ := staleE_sound h
          obtain ⟨Φ1, h, hΦ1⟩ := staleP_sound h
          obtain ⟨c1, hc1'⟩ := (hΦ1 id).2 _ hg
          obtain ⟨Φ', hk, hΦ⟩ := setPK_sound h (hasId_of hc1')
          cases hs
          have hrs := st.mem.rows hg
          cases hrs with
          | own hrs =>
            obtain ⟨v', w', hr, q1, q2, q3, q4, q5, q6, q7⟩ := run_append (P := B.P) (ty := ty) hts htx hsrc hi hz0 hzc hsz hrs nr hlen hnews (by simpa using hob.1) (by simpa using hob.2)
            rw [← has, ← List.map_append] at q1
            have hsat := sat_head (ch' := .own i.size d enc (l ++ as)) (v' := v') st hg hσ (fun j c' hj => (hΦ1 j).1 c' hj) hΦ q2 q3 q4 q5
              (fun b hb hnb => q6 b hb (by rw [← blk_own_eq]; exact hnb)) (fun b hb => by rw [blk_own_eq] at hb ⊢; exact q7 b hb) (.own q1)
            refine ⟨_, σ', Φ', n, v', w', _, hk, hr, ?_, hsat, fun D hD k s0 w0 sv0 hk0 => ?_⟩
            · exact own_rel q1.oneCell
            · obtain ⟨sv1, g1, _⟩ := hσ k _ _ hk0
              exact hD _ _ _ _ g1
      · rename_i sz l hg
        cases hz3 : szOk B.P el sz with
        | false => rw [hz3] at h; exact h.elim
        | true =>
          rw [hz3] at h
          obtain ⟨hob, h⟩ := h
          have hob := hob.h
          rw [hby] at hob
          have hsz3 : i.size = sz := by
            have := (szOk_spec hz3).1
            rw [sizeT_run hi] at this; exact this
          subst hsz3
          obtain ⟨σ', h, hσ⟩ := staleE_sound h
          obtain ⟨Φ1, h, hΦ1⟩ := staleP_sound h
          obtain ⟨c1, hc1'⟩ := (hΦ1 id).2 _ hg
          obtain ⟨Φ', hk, hΦ⟩ := setPK_sound h (hasId_of hc1')
          cases hs
          have hrs := st.mem.rows hg
          cases hrs with
          | ownl hrs =>
            obtain ⟨v', w', hr, q1, q2, q3, q4, q5, q6, q7⟩ := run_append (P := B.P) (ty := ty) hts htx hsrc hi hz0 hzc hsz hrs nr hlen hnews hob.1 hob.2
            have hsat := sat_head (ch' := .ownl i.size (l ++ rows)) (v' := v') st hg hσ (fun j c' hj => (hΦ1 j).1 c' hj) hΦ q2 q3 q4 q5
              (fun b hb hnb => q6 b hb (by rw [← blk_ownl_eq]; exact hnb)) (fun b hb => by rw [blk_ownl_eq] at hb ⊢; exact q7 b hb) (.ownl q1)
            refine ⟨_, σ', Φ', n, v', w', _, hk, hr, ?_, hsat, fun D hD k s0 w0 sv0 hk0 => ?_⟩
            · exact own_rel q1.oneCell
            · obtain ⟨sv1, g1, _⟩ := hσ k _ _ hk0
              exact hD _ _ _ _ g1
      · exact h.elim
    · exact h.elim
  · exact h.elim

end Go.Vc
