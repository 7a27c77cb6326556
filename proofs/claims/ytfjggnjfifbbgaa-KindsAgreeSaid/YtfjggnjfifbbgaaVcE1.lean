/- A part of the proof: lemmas and walks that the last text of the claim joins; no condition. -/
import Derived.Test.YtfjggnjfifbbgaaVcS9
import Derived.Laws.AppendOwn
import Derived.Laws.MakeOwn
namespace Go.Vc
set_option autoImplicit false
set_option linter.unusedVariables false

theorem hasId_of {Φ : Phi} {i : Nat} {c : Chunk} (h : Phi.get Φ i = some c) : hasId Φ i = true := by simp [hasId, h]
theorem blk_box' (cs cs' : List SV) (x : Value) : (Chunk.box cs).blk x = (Chunk.box cs').blk x := by
  cases x <;> first | rfl | (rename_i a; cases a <;> rfl)
theorem setPK_sound {id : Nat} {ch : Chunk} {Φ : Phi} : ∀ {K : Phi → Prop}, setPK id ch Φ K → hasId Φ id = true →
    ∃ Φ', K Φ' ∧ ∀ j, Phi.get Φ' j = bif Nat.beq id j then some ch else Phi.get Φ j := by
  induction Φ with
  | nil => intro K h hi; simp [hasId, Phi.get] at hi
  | cons x r ih =>
    obtain ⟨k, c⟩ := x
    intro K h hi
    unfold setPK at h
    cases hb : Nat.beq k id with
    | true =>
      rw [hb] at h
      obtain rfl := beq_of hb
      refine ⟨_, h, fun j => ?_⟩
      rw [phi_cons, phi_cons]
      cases Nat.beq k j <;> rfl
    | false =>
      rw [hb] at h
      have hi' : hasId r id = true := by
        unfold hasId at hi ⊢
        rw [phi_cons, hb] at hi
        exact hi
      obtain ⟨Φ', hk, hg⟩ := ih h hi'
      refine ⟨_, hk, fun j => ?_⟩
      rw [phi_cons, phi_cons, hg]
      cases hq : Nat.beq k j with
      | false => rfl
      | true =>
        obtain rfl := beq_of hq
        have : Nat.beq id k = false := nbeq_of (fun he => by subst he; rw [Nat.beq_refl] at hb; cases hb)
        rw [this]; rfl

/-- one block has turned -/
structure Turns (w w' : World) (g : Nat) : Prop where
  os : w'.os = w.os
  tape : w'.tape = w.tape
  output : w'.output = w.output
  size : w'.heap.size = w.heap.size
  old : ∀ b, b ≠ g → w'.heap[b]? = w.heap[b]?

/-- a chunk is written; its header stays -/
theorem sat_upd {B : Base} {e N r β σ Φ a w} {id g : Nat} {ch ch' : Chunk} {w' : World} {Φ' : Phi} (s : Sat B e N r β σ Φ a w) (hid : Phi.get Φ id = some ch)
    (hΦ : ∀ j, Phi.get Φ' j = bif Nat.beq id j then some ch' else Phi.get Φ j) (hw : Turns w w' g) (hg : ch.blk (β id) = some g)
    (hb : ch'.blk (β id) = ch.blk (β id)) (hch : ch'.Sat r β w' (β id)) : Sat B e N r β σ Φ' a w' := by
  have get : ∀ j c, Phi.get Φ' j = some c → (j = id ∧ c = ch') ∨ (j ≠ id ∧ Phi.get Φ j = some c) := by
    intro j c h
    rw [hΦ] at h
    cases hq : Nat.beq id j with
    | true => obtain rfl := beq_of hq; rw [hq] at h; simp at h; exact .inl ⟨rfl, h.symm⟩
    | false => rw [hq] at h; exact .inr ⟨(fun he => by (subst he; rw [Nat.beq_refl] at hq; cases hq)), h⟩
  have blk : ∀ j c b, Phi.get Φ' j = some c → c.blk (β j) = some b → ∃ c0, Phi.get Φ j = some c0 ∧ c0.blk (β j) = some b := by
    intro j c b h1 h2
    rcases get j c h1 with ⟨rfl, rfl⟩ | ⟨_, h⟩
    · exact ⟨ch, hid, by rw [← hb]; exact h2⟩
    · exact ⟨c, h, h2⟩
  refine ⟨s.agree, ⟨fun b o h => ?_, fun j c h => ?_, fun j c b h1 h2 => ?_, fun j j' c c' b h1 h1' h2 h2' => ?_⟩, s.G, s.le,
    ⟨hw.os.trans s.hid.os, hw.tape.trans s.hid.tape, hw.output.trans s.hid.output, by rw [hw.size]; exact s.hid.size, fun b hb' p1 p2 => ?_⟩, s.defers, s.size⟩
  · have hne : b ≠ g := by
      rintro rfl
      rw [s.mem.sep _ _ _ hid hg] at h; cases h
    rw [hw.old b hne]; exact s.mem.vis _ _ h
  · rcases get j c h with ⟨rfl, rfl⟩ | ⟨hne, h⟩
    · exact hch
    · refine (s.mem.chs _ _ h).keep (Mem.le_refl r) (fun b hb' => hw.old b ?_) (fun _ _ _ _ _ _ h => h)
      rintro rfl
      exact hne (s.mem.nod _ _ _ _ _ h hid hb' hg)
  · obtain ⟨c0, q1, q2⟩ := blk _ _ _ h1 h2
    exact s.mem.sep _ _ _ q1 q2
  · obtain ⟨c0, q1, q2⟩ := blk _ _ _ h1 h2
    obtain ⟨c1, q1', q2'⟩ := blk _ _ _ h1' h2'
    exact s.mem.nod _ _ _ _ _ q1 q1' q2 q2'
  · obtain ⟨x1, x2, x3⟩ := s.hid.block b hb' p1 p2
    refine ⟨by rw [hw.old b (fun he => x3 _ _ hid (he ▸ hg))]; exact x1, x2, fun j c h hc => ?_⟩
    obtain ⟨c0, q1, q2⟩ := blk _ _ _ h hc
    exact x3 _ _ q1 q2

theorem run_storeCells {P : Program} (g o : Nat) (t : TypeId) (fr : Nat × Nat) : ∀ (vs : List Value) (i : Nat) (cur : Array Value) (w : World), w.heap[g]? = some (.cells cur t fr) →
    o + i + vs.length ≤ cur.size → (∀ v ∈ vs, v.oneCell' = true) → (∀ j, j < cur.size → ¬ (fr.1 ≤ j ∧ j < fr.2)) →
    ∃ cur' w', (storeCells ⟨g, o, none⟩ vs i).run P w = .ok () w' ∧ w'.heap[g]? = some (.cells cur' t fr) ∧ Turns w w' g ∧ cur'.size = cur.size ∧
      ∀ j : Nat, cur'[j]? = if o + i ≤ j ∧ j < o + i + vs.length then vs[j - (o + i)]? else cur[j]? := by
  intro vs
  induction vs with
  | nil =>
    intro i cur w hg _ _ _
    exact ⟨cur, w, rfl, hg, ⟨rfl, rfl, rfl, rfl, fun _ _ => rfl⟩, rfl, fun j => by rw [if_neg (by simp)]⟩
  | cons v rest ih =>
    intro i cur w hg hl h1 hfr
    have hi : o + i < cur.size := by simp at hl; omega
    have hcell : w.cell? ⟨g, o + i, none⟩ = some cur[o + i] := by simp [World.cell?, hg, hi]
    have hfro : w.frozen? ⟨g, o + i, none⟩ = false := by
      simp only [World.frozen?, hg]
      have := hfr _ hi
      simpa using fun h => Nat.le_of_not_lt fun h2 => this ⟨h, h2⟩
    have hst : (store ((⟨g, o, none⟩ : Addr).add i) v).run P w = .ok () (w.setCell ⟨g, o + i, none⟩ v) := by
      rw [add_mk, run_store P w _ v _ (h1 v (by simp)), hcell]
      simp [hfro]
    have hg' : (w.setCell ⟨g, o + i, none⟩ v).heap[g]? = some (.cells (cur.setIfInBounds (o + i) v) t fr) := by
      simp only [World.setCell, Array.getElem?_modify, hg, if_true]
      rfl
    have hT : Turns w (w.setCell ⟨g, o + i, none⟩ v) g := by
      refine ⟨rfl, rfl, rfl, by simp [World.setCell], fun b hb => ?_⟩
      simp only [World.setCell, Array.getElem?_modify]
      rw [if_neg (fun h => hb h.symm)]
    obtain ⟨cur', w', hr, q1, q2, q3, q4⟩ := ih (i + 1) (cur.setIfInBounds (o + i) v) (w.setCell ⟨g, o + i, none⟩ v) hg' (by simp at hl ⊢; omega) (fun x hx => h1 x (by simp [hx])) (by simpa using hfr)
    refine ⟨cur', w', ?_, q1, ⟨q2.os.trans hT.os, q2.tape.trans hT.tape, q2.output.trans hT.output, q2.size.trans hT.size, fun b hb => (q2.old b hb).trans (hT.old b hb)⟩, by simpa using q3, fun j => ?_⟩
    · simp only [storeCells, Sem.run_bind, hst, Result.andThen_ok, hr]
    · rw [q4]
      simp only [List.length_cons]
      by_cases hj : o + (i + 1) ≤ j ∧ j < o + (i + 1) + rest.length
      · rw [if_pos hj, if_pos (by omega), show j - (o + i) = (j - (o + (i + 1))) + 1 by omega, List.getElem?_cons_succ]
      · rw [if_neg hj]
        by_cases hj2 : j = o + i
        · subst hj2
          rw [if_pos (by omega), Array.getElem?_setIfInBounds_self_of_lt hi]
          simp
        · rw [if_neg (by omega), Array.getElem?_setIfInBounds_ne (by omega)]

theorem RelL.ones {r β l vs} (h : RelL r β l vs) (ho : allOne l = true) : ∀ v ∈ vs, v.oneCell' = true := by
  intro v hv
  obtain ⟨i, hi, rfl⟩ := List.getElem_of_mem hv
  have hil : i < l.length := by have := h.1; omega
  have h1 : l[i]? = some l[i] := List.getElem?_eq_getElem hil
  exact (h.2 i _ _ h1 (List.getElem?_eq_getElem hi)).oneCell (allOne_get ho i _ h1)

theorem storeK_sound {B : Base} {e N r β σ Φ a w n t} {p x : SV} {vp vx : Value} {K : EK} (h : storeK B.P t p x σ Φ n K) (s : Sat B e N r β σ Φ a w) (hp : Rel r β p vp) (hx : Rel r β x vx) :
    ∃ sv Φ' w', K sv σ Φ' n ∧ (Instr.storeAt t vp vx).run B.P w = .ok () w' ∧ sv = .und ∧ Sat B e N r β σ Φ' a w' := by
  unfold storeK at h
  obtain ⟨xs, h, ho, _, hxs⟩ := cellsK_sound h
  have hvx := hxs r β vx hx
  cases hz : Nat.beq (sizeT B.P t) 0 with
  | true => rw [hz] at h; exact h.elim
  | false =>
  rw [hz] at h
  cases hz2 : Nat.beq (len xs) (sizeT B.P t) with
  | false => rw [hz2] at h; exact h.elim
  | true =>
  rw [hz2] at h
  simp only [cond_true, cond_false] at h
  have hlen := beq_of hz2
  rw [len_eq] at hlen
  obtain ⟨i, hi⟩ : ∃ i, B.P.info? t = some i := by
    unfold sizeT at hz
    cases hq : B.P.info? t with
    | none => rw [hq] at hz; cases hz
    | some i => exact ⟨i, rfl⟩
  have hsz : vx.cells.size = i.size := by
    have := hvx.1
    rw [sizeT_run hi] at hlen
    simp at this
    omega
  have hone := hvx.ones ho
  have run : ∀ {b o w'}, (storeCells ⟨b, o, none⟩ vx.cells.toList 0).run B.P w = .ok () w' → (Instr.storeAt t (.pointer (some ⟨b, o, none⟩)) vx).run B.P w = .ok () w' := by
    intro b o w' hr
    simp only [Instr.storeAt, Sem.run_bind, Instr.sureAddr, Sem.run_pure, Result.andThen_ok, storeVar, run_sizeOf hi, hsz, ne_eq, not_true_eq_false, if_false, hr]
  split at h
  · rename_i id off _
    split at h
    · rename_i cs hg
      obtain ⟨l, h, h1, h2, h3⟩ := fillAt_sound h
      obtain ⟨Φ', hk, hΦ⟩ := setPK_sound h (hasId_of hg)
      cases hp with
      | loc hβ =>
        rename_i b
        have hs := s.mem.rows hg
        cases hs with
        | box hxb hw hl hc =>
          rename_i b' c T
          rw [hβ] at hxb
          obtain rfl : b = b' := by simpa using hxb
          have hx0 : xs ≠ [] := by intro h0; subst h0; simp at hlen; rw [← hlen] at hz; cases hz
          have hfit := h2 hx0
          obtain ⟨cur', w', hr, q1, q2, q3, q4⟩ := run_storeCells (P := B.P) b off T (0, 0) vx.cells.toList 0 c w hw (by have := hvx.1; omega) hone (by intro j _; omega)
          refine ⟨_, Φ', w', hk, run hr, rfl, sat_upd s hg hΦ q2 (by rw [hβ]; rfl) (blk_box' _ _ _) ?_⟩
          refine .box hβ q1 (by rw [q3, hl, h1]) fun j sv v p1 p2 => ?_
          rw [h3] at p1
          rw [q4] at p2
          have hvl := hvx.1
          simp only [Nat.add_zero] at p2
          by_cases hj : off ≤ j ∧ j < off + xs.length
          · rw [if_pos hj] at p1
            rw [if_pos (by omega)] at p2
            exact hvx.2 _ _ _ p1 p2
          · rw [if_neg hj] at p1
            rw [if_neg (by omega)] at p2
            exact hc _ _ _ p1 p2
    · exact h.elim
  · rename_i id sz0 i' off _
    split at h
    · rename_i α sz d enc l hg
      cases hc0 : (Nat.beq sz0 sz && SV.okIdsL (fun _ => false) xs) with
      | false => rw [hc0] at h; exact h.elim
      | true =>
        rw [hc0] at h
        simp only [Bool.and_eq_true] at hc0
        obtain ⟨hc1, hc2⟩ := hc0
        obtain rfl := beq_of hc1
        obtain ⟨hob, h⟩ := h
        have hil := hob.h
        obtain ⟨row, h, h1, h2, h3⟩ := fillAt_sound h
        obtain ⟨a', ha', h⟩ := h
        obtain ⟨Φ', hk, hΦ⟩ := setPK_sound h (hasId_of hg)
        cases hp with
        | oel hβ =>
          rename_i b off0 n0 cap
          have hs := s.mem.rows hg
          cases hs with
          | own hs =>
            rcases hs with ⟨a0, _, he⟩ | ⟨b', off', cap', c, T, fr, he, hcap0, hw, hfr, hm, hcap, hszc, hrow, hone', hrr⟩
            · simp at he; subst he; simp at hil
            · rw [he] at hβ
              simp only [Value.slice.injEq, Option.some.injEq, Addr.mk.injEq] at hβ
              obtain ⟨⟨rfl, rfl, _⟩, _, _⟩ := hβ
              have hx0 : xs ≠ [] := by intro h0; subst h0; simp at hlen; rw [← hlen] at hz; cases hz
              have hfit := h2 hx0
              have hg0 : l.getD i' d = l[i'] := by simp [List.getD, List.getElem?_eq_getElem hil]
              have hrl : (enc (l.getD i' d)).length = sz0 := hrow i' _ (by rw [hg0]; simp [List.getElem?_eq_getElem hil])
              rw [hrl] at hfit
              have hbnd : off' + i' * sz0 + sz0 ≤ c.size := by
                have h1 : (i' + 1) * sz0 ≤ cap' * sz0 := Nat.mul_le_mul_right sz0 (by simp at hcap; omega)
                rw [Nat.add_mul] at h1
                omega
              obtain ⟨cur', w', hr, q1, q2, q3, q4⟩ := run_storeCells (P := B.P) b' (off' + i' * sz0 + off) T fr vx.cells.toList 0 c w hw (by have := hvx.1; omega) hone hfr
              refine ⟨_, Φ', w', hk, run hr, rfl, sat_upd s hg hΦ q2 (blk_own he hcap0) (by rw [blk_own he hcap0, blk_own he hcap0]) ?_⟩
              refine .own (.inr ⟨b', off', cap', cur', T, fr, by rw [he]; simp, hcap0, q1, by rw [q3]; exact hfr, by simpa using hm, by simpa using hcap, by rw [q3]; exact hszc, ?_, ?_, ?_⟩)
              · intro k row' hk'
                simp only [List.getElem?_map, List.getElem?_set] at hk'
                by_cases hki : i' = k
                · subst hki
                  rw [if_pos rfl, if_pos hil] at hk'
                  simp at hk'
                  rw [← hk', ha', h1, hrl]
                · rw [if_neg hki] at hk'
                  exact hrow k row' (by simpa using hk')
              · intro k row' j sv hk' hj
                simp only [List.getElem?_map, List.getElem?_set] at hk'
                by_cases hki : i' = k
                · subst hki
                  rw [if_pos rfl, if_pos hil] at hk'
                  simp at hk'
                  rw [← hk', ha', h3] at hj
                  by_cases hjj : off ≤ j ∧ j < off + xs.length
                  · rw [if_pos hjj] at hj
                    exact allOne_get ho _ _ hj
                  · rw [if_neg hjj] at hj
                    exact hone' i' _ j sv (by rw [hg0]; simp [List.getElem?_eq_getElem hil]) hj
                · rw [if_neg hki] at hk'
                  exact hone' k row' j sv (by simpa using hk') hj
              · intro k row' j sv v hk' hj hv
                have hvl := hvx.1
                rw [q4] at hv
                simp only [Nat.add_zero] at hv
                simp only [List.getElem?_map, List.getElem?_set] at hk'
                by_cases hki : i' = k
                · subst hki
                  rw [if_pos rfl, if_pos hil] at hk'
                  simp at hk'
                  rw [← hk', ha', h3] at hj
                  by_cases hjj : off ≤ j ∧ j < off + xs.length
                  · rw [if_pos hjj] at hj
                    rw [if_pos (by omega)] at hv
                    have e : off' + i' * sz0 + j - (off' + i' * sz0 + off) = j - off := by omega
                    rw [e] at hv
                    exact (hvx.2 _ _ _ hj hv).pure (SV.okIdsL_get hc2 _ _ hj) _
                  · rw [if_neg hjj] at hj
                    rw [if_neg (by omega)] at hv
                    exact hrr i' _ j sv v (by rw [hg0]; simp [List.getElem?_eq_getElem hil]) hj hv
                · rw [if_neg hki] at hk'
                  have hjs : j < sz0 := by
                    have := hrow k row' (by simpa using hk')
                    rcases Nat.lt_or_ge j row'.length with h | h
                    · omega
                    · rw [List.getElem?_eq_none h] at hj; cases hj
                  have hne : ¬ (off' + i' * sz0 + off ≤ off' + k * sz0 + j ∧ off' + k * sz0 + j < off' + i' * sz0 + off + vx.cells.toList.length) := by
                    rintro ⟨g1, g2⟩
                    rcases Nat.lt_or_gt_of_ne hki with hlt | hgt
                    · have : (i' + 1) * sz0 ≤ k * sz0 := Nat.mul_le_mul_right sz0 hlt
                      rw [Nat.add_mul] at this; omega
                    · have : (k + 1) * sz0 ≤ i' * sz0 := Nat.mul_le_mul_right sz0 hgt
                      rw [Nat.add_mul] at this; omega
                  rw [if_neg hne] at hv
                  exact hrr k row' j sv v (by simpa using hk') hj hv
    · exact h.elim
  · exact h.elim

end Go.Vc
