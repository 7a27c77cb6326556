/- A part of the proof: lemmas and walks that the last text of the claim joins; no condition. -/
import Derived.Test.YtgggnkinalmmlaaVcC
import Derived.Laws.AppendOwn
import Derived.Laws.MakeOwn
set_option linter.unusedVariables false
set_option linter.unusedSimpArgs false
namespace Go.Vc
set_option autoImplicit false
set_option linter.unusedVariables false

theorem hasId_of {Φ : Phi} {i : Nat} {c : Chunk} (h : Phi.get Φ i = some c) : hasId Φ i = true := by simp [hasId, h]
theorem blk_box' (T : Option Nat) (cs cs' : List SV) (x : Value) : (Chunk.bx T cs).blk x = (Chunk.bx T cs').blk x := by
  cases x <;> first | rfl | (rename_i a; cases a <;> rfl)
theorem setPK_sound {id : Nat} {ch : Chunk} {Φ : Phi} : ∀ {K : Phi → Prop}, setPK id ch Φ K → hasId Φ id = true →
    ∃ Φ', K Φ' ∧ ∀ j, Phi.get Φ' j = bif Nat.beq id j then some ch else Phi.get Φ j := by
  induction Φ with
  | nil => intro K h hi; simp [hasId, Phi.get] at hi
  | cons x r ih =>
    obtain ⟨k, c⟩ := x
    intro K h hi
    unfold setPK at h
    cases hb : Nat.beq k id with
    | true =>
      rw [hb] at h
      obtain rfl := beq_of hb
      refine ⟨_, h, fun j => ?_⟩
      rw [phi_cons, phi_cons]
      cases Nat.beq k j <;> rfl
    | false =>
      rw [hb] at h
      have hi' : hasId r id = true := by
        unfold hasId at hi ⊢
        rw [phi_cons, hb] at hi
        exact hi
      obtain ⟨Φ', hk, hg⟩ := ih h hi'
      refine ⟨_, hk, fun j => ?_⟩
      rw [phi_cons, phi_cons, hg]
      cases hq : Nat.beq k j with
      | false => rfl
      | true =>
        obtain rfl := beq_of hq
        have : Nat.beq id k = false := nbeq_of (fun he => by subst he; rw [Nat.beq_refl] at hb; cases hb)
        rw [this]; rfl

/-- one block has turned -/
structure Turns (w w' : World) (g : Nat) : Prop where
  os : w'.os = w.os
  tape : w'.tape = w.tape
  output : w'.output = w.output
  size : w'.heap.size = w.heap.size
  old : ∀ b, b ≠ g → w'.heap[b]? = w.heap[b]?

/-- a chunk is written; its header stays -/
theorem mem_upd {r β Φ w} {id g : Nat} {ch ch' : Chunk} {w' : World} {Φ' : Phi} (m : MemSat r β Φ w) (hid : Phi.get Φ id = some ch)
    (hΦ : ∀ j, Phi.get Φ' j = bif Nat.beq id j then some ch' else Phi.get Φ j) (hw : Turns w w' g) (hg : ch.blk (β id) = some g)
    (hb : ch'.blk (β id) = ch.blk (β id)) (hch : ch'.Sat r β w' (β id)) (hkd : ch'.kind = ch.kind) : MemSat r β Φ' w' ∧ Hid r β Φ w r β Φ' w' := by
  have get : ∀ j c, Phi.get Φ' j = some c → (j = id ∧ c = ch') ∨ (j ≠ id ∧ Phi.get Φ j = some c) := by
    intro j c h
    rw [hΦ] at h
    cases hq : Nat.beq id j with
    | true => obtain rfl := beq_of hq; rw [hq] at h; simp at h; exact .inl ⟨rfl, h.symm⟩
    | false => rw [hq] at h; exact .inr ⟨(fun he => by (subst he; rw [Nat.beq_refl] at hq; cases hq)), h⟩
  have blk : ∀ j c b, Phi.get Φ' j = some c → c.blk (β j) = some b → ∃ c0, Phi.get Φ j = some c0 ∧ c0.blk (β j) = some b := by
    intro j c b h1 h2
    rcases get j c h1 with ⟨rfl, rfl⟩ | ⟨_, h⟩
    · exact ⟨ch, hid, by rw [← hb]; exact h2⟩
    · exact ⟨c, h, h2⟩
  refine ⟨⟨fun b o h => ?_, fun j c h => ?_, fun j c b h1 h2 => ?_, fun j j' c c' b h1 h1' h2 h2' => ?_⟩,
    hw.os, hw.tape, hw.output, by rw [hw.size]; exact Nat.le_refl _, fun b hb' p1 p2 => ⟨hw.old b (fun he => p2 _ _ hid (he ▸ hg)), p1, fun j c h hc => ?_⟩, fun j c h hk => ⟨rfl, ?_⟩⟩
  · have hne : b ≠ g := by
      rintro rfl
      rw [m.sep _ _ _ hid hg] at h; cases h
    rw [hw.old b hne]; exact m.vis _ _ h
  · rcases get j c h with ⟨rfl, rfl⟩ | ⟨hne, h⟩
    · exact hch
    · refine (m.chs _ _ h).keep (Mem.le_refl r) (fun b hb' => hw.old b ?_) (fun _ _ _ _ _ _ _ h => h)
      rintro rfl
      exact hne (m.nod _ _ _ _ _ h hid hb' hg)
  · obtain ⟨c0, q1, q2⟩ := blk _ _ _ h1 h2
    exact m.sep _ _ _ q1 q2
  · obtain ⟨c0, q1, q2⟩ := blk _ _ _ h1 h2
    obtain ⟨c1, q1', q2'⟩ := blk _ _ _ h1' h2'
    exact m.nod _ _ _ _ _ q1 q1' q2 q2'
  · obtain ⟨c0, q1, q2⟩ := blk _ _ _ h hc
    exact p2 _ _ q1 q2
  · rw [hΦ]
    cases hq : Nat.beq id j with
    | true =>
      obtain rfl := beq_of hq
      rw [hid] at h
      cases h
      exact ⟨ch', rfl, hkd⟩
    | false => exact ⟨c, h, rfl⟩
theorem sat_upd {B : Base} {e N r β σ Φ a w} {id g : Nat} {ch ch' : Chunk} {w' : World} {Φ' : Phi} (s : Sat B e N r β σ Φ a w) (hid : Phi.get Φ id = some ch)
    (hΦ : ∀ j, Phi.get Φ' j = bif Nat.beq id j then some ch' else Phi.get Φ j) (hw : Turns w w' g) (hg : ch.blk (β id) = some g)
    (hb : ch'.blk (β id) = ch.blk (β id)) (hch : ch'.Sat r β w' (β id)) (hkd : ch'.kind = ch.kind) : Sat B e N r β σ Φ' a w' := by
  obtain ⟨h1, h2⟩ := mem_upd s.mem hid hΦ hw hg hb hch hkd
  exact s.step s.agree h1 (Mem.le_refl r) h2

theorem run_storeCells {P : Program} (g o : Nat) (t : TypeId) (fr : Nat × Nat) : ∀ (vs : List Value) (i : Nat) (cur : Array Value) (w : World), w.heap[g]? = some (.cells cur t fr) →
    o + i + vs.length ≤ cur.size → (∀ v ∈ vs, v.oneCell' = true) → (∀ j, j < cur.size → ¬ (fr.1 ≤ j ∧ j < fr.2)) →
    ∃ cur' w', (storeCells ⟨g, o, none⟩ vs i).run P w = .ok () w' ∧ w'.heap[g]? = some (.cells cur' t fr) ∧ Turns w w' g ∧ cur'.size = cur.size ∧
      ∀ j : Nat, cur'[j]? = if o + i ≤ j ∧ j < o + i + vs.length then vs[j - (o + i)]? else cur[j]? := by
  intro vs
  induction vs with
  | nil =>
    intro i cur w hg _ _ _
    exact ⟨cur, w, rfl, hg, ⟨rfl, rfl, rfl, rfl, fun _ _ => rfl⟩, rfl, fun j => by rw [if_neg (by simp)]⟩
  | cons v rest ih =>
    intro i cur w hg hl h1 hfr
    have hi : o + i < cur.size := by simp at hl; omega
    have hcell : w.cell? ⟨g, o + i, none⟩ = some cur[o + i] := by simp [World.cell?, hg, hi]
    have hfro : w.frozen? ⟨g, o + i, none⟩ = false := by
      simp only [World.frozen?, hg]
      have := hfr _ hi
      simpa using fun h => Nat.le_of_not_lt fun h2 => this ⟨h, h2⟩
    have hst : (store ((⟨g, o, none⟩ : Addr).add i) v).run P w = .ok () (w.setCell ⟨g, o + i, none⟩ v) := by
      rw [add_mk, run_store P w _ v _ (h1 v (by simp)), hcell]
      simp [hfro]
    have hg' : (w.setCell ⟨g, o + i, none⟩ v).heap[g]? = some (.cells (cur.setIfInBounds (o + i) v) t fr) := by
      simp only [World.setCell, Array.getElem?_modify, hg, if_true]
      rfl
    have hT : Turns w (w.setCell ⟨g, o + i, none⟩ v) g := by
      refine ⟨rfl, rfl, rfl, by simp [World.setCell], fun b hb => ?_⟩
      simp only [World.setCell, Array.getElem?_modify]
      rw [if_neg (fun h => hb h.symm)]
    obtain ⟨cur', w', hr, q1, q2, q3, q4⟩ := ih (i + 1) (cur.setIfInBounds (o + i) v) (w.setCell ⟨g, o + i, none⟩ v) hg' (by simp at hl ⊢; omega) (fun x hx => h1 x (by simp [hx])) (by simpa using hfr)
    refine ⟨cur', w', ?_, q1, ⟨q2.os.trans hT.os, q2.tape.trans hT.tape, q2.output.trans hT.output, q2.size.trans hT.size, fun b hb => (q2.old b hb).trans (hT.old b hb)⟩, by simpa using q3, fun j => ?_⟩
    · simp only [storeCells, Sem.run_bind, hst, Result.andThen_ok, hr]
    · rw [q4]
      simp only [List.length_cons]
      by_cases hj : o + (i + 1) ≤ j ∧ j < o + (i + 1) + rest.length
      · rw [if_pos hj, if_pos (by omega), show j - (o + i) = (j - (o + (i + 1))) + 1 by omega, List.getElem?_cons_succ]
      · rw [if_neg hj]
        by_cases hj2 : j = o + i
        · subst hj2
          rw [if_pos (by omega), Array.getElem?_setIfInBounds_self_of_lt hi]
          simp
        · rw [if_neg (by omega), Array.getElem?_setIfInBounds_ne (by omega)]

theorem RelL.ones {r β l vs} (h : RelL r β l vs) (ho : allOne l = true) : ∀ v ∈ vs, v.oneCell' = true := by
  intro v hv
  obtain ⟨i, hi, rfl⟩ := List.getElem_of_mem hv
  have hil : i < l.length := by have := h.1; omega
  have h1 : l[i]? = some l[i] := List.getElem?_eq_getElem hil
  exact (h.2 i _ _ h1 (List.getElem?_eq_getElem hi)).oneCell (allOne_get ho i _ h1)

theorem storeK_sound {B : Base} {e N r β σ Φ a w n t} {p x : SV} {vp vx : Value} {K : EK} (h : storeK B.P t p x σ Φ n K) (s : Sat B e N r β σ Φ a w) (hp : Rel r β p vp) (hx : Rel r β x vx) :
    ∃ sv Φ' w', K sv σ Φ' n ∧ (Instr.storeAt t vp vx).run B.P w = .ok () w' ∧ sv = .und ∧ Sat B e N r β σ Φ' a w' := by
  unfold storeK at h
  obtain ⟨xs, h, ho, _, hxs⟩ := cellsK_sound h
  have hvx := hxs r β vx hx
  cases hz : Nat.beq (sizeT B.P t) 0 with
  | true => rw [hz] at h; exact h.elim
  | false =>
  rw [hz] at h
  cases hz2 : Nat.beq (len xs) (sizeT B.P t) with
  | false => rw [hz2] at h; exact h.elim
  | true =>
  rw [hz2] at h
  simp only [cond_true, cond_false] at h
  have hlen := beq_of hz2
  rw [len_eq] at hlen
  obtain ⟨i, hi⟩ : ∃ i, B.P.info? t = some i := by
    unfold sizeT at hz
    cases hq : B.P.info? t with
    | none => rw [hq] at hz; cases hz
    | some i => exact ⟨i, rfl⟩
  have hsz : vx.cells.size = i.size := by
    have := hvx.1
    rw [sizeT_run hi] at hlen
    simp at this
    omega
  have hone := hvx.ones ho
  have run : ∀ {b o w'}, (storeCells ⟨b, o, none⟩ vx.cells.toList 0).run B.P w = .ok () w' → (Instr.storeAt t (.pointer (some ⟨b, o, none⟩)) vx).run B.P w = .ok () w' := by
    intro b o w' hr
    simp only [Instr.storeAt, Sem.run_bind, Instr.sureAddr, Sem.run_pure, Result.andThen_ok, storeVar, run_sizeOf hi, hsz, ne_eq, not_true_eq_false, if_false, hr]
  split at h
  · rename_i id off _
    split at h
    · rename_i cs hg
      obtain ⟨l, h, h1, h2, h3⟩ := fillAt_sound h
      obtain ⟨Φ', hk, hΦ⟩ := setPK_sound h (hasId_of hg)
      cases hp with
      | loc hβ =>
        rename_i b
        have hs := s.mem.rows hg
        cases hs with
        | box hxb hw hl hc hT =>
          rename_i b' c T
          rw [hβ] at hxb
          obtain rfl : b = b' := by simpa using hxb
          have hx0 : xs ≠ [] := by intro h0; subst h0; simp at hlen; rw [← hlen] at hz; cases hz
          have hfit := h2 hx0
          obtain ⟨cur', w', hr, q1, q2, q3, q4⟩ := run_storeCells (P := B.P) b off T (0, 0) vx.cells.toList 0 c w hw (by have := hvx.1; omega) hone (by intro j _; omega)
          refine ⟨_, Φ', w', hk, run hr, rfl, sat_upd s hg hΦ q2 (by rw [hβ]; rfl) (blk_box' _ _ _ _) ?_ rfl⟩
          refine .box hβ q1 (by rw [q3, hl, h1]) (fun j sv v p1 p2 => ?_) hT
          rw [h3] at p1
          rw [q4] at p2
          have hvl := hvx.1
          simp only [Nat.add_zero] at p2
          by_cases hj : off ≤ j ∧ j < off + xs.length
          · rw [if_pos hj] at p1
            rw [if_pos (by omega)] at p2
            exact hvx.2 _ _ _ p1 p2
          · rw [if_neg hj] at p1
            rw [if_neg (by omega)] at p2
            exact hc _ _ _ p1 p2
    · exact h.elim
  · rename_i id sz0 i' off _
    split at h
    · rename_i τ l hg
      cases hc0 : (Nat.beq sz0 τ.size && SV.okIdsL (fun _ => false) xs) with
      | false => rw [hc0] at h; exact h.elim
      | true =>
        rw [hc0] at h
        simp only [Bool.and_eq_true] at hc0
        obtain ⟨hc1, hc2⟩ := hc0
        have hsz0 := beq_of hc1
        obtain ⟨hob, h⟩ := h
        have hil := hob.h
        obtain ⟨row, h, h1, h2, h3⟩ := fillAt_sound h
        obtain ⟨a', h, hent⟩ := dec1K_sound h
        obtain ⟨Φ', hk, hΦ⟩ := setPK_sound h (hasId_of hg)
        cases hp with
        | oel hβ =>
          rename_i b off0 n0 cap
          rw [hsz0]
          have hs := s.mem.rows hg
          cases hs with
          | own hs =>
            rcases hs with ⟨a0, _, he⟩ | ⟨b', off', cap', c, T, fr, he, hcap0, hw, hfr, hm, hcap, hszc, hrow, hone', hrr⟩
            · simp at he; subst he; simp at hil
            · rw [he] at hβ
              simp only [Value.slice.injEq, Option.some.injEq, Addr.mk.injEq] at hβ
              obtain ⟨⟨rfl, rfl, _⟩, _, _⟩ := hβ
              have hx0 : xs ≠ [] := by intro h0; subst h0; simp at hlen; rw [← hlen] at hz; cases hz
              have hfit := h2 hx0
              have hg0 : l.getD i' τ.dflt = l[i'] := by simp [List.getD, List.getElem?_eq_getElem hil]
              have hrl : (τ.enc (l.getD i' τ.dflt)).length = τ.size := hrow i' _ (by rw [hg0]; simp [List.getElem?_eq_getElem hil])
              rw [hrl] at hfit
              have hbnd : off' + i' * τ.size + τ.size ≤ c.size := by
                have h1 : (i' + 1) * τ.size ≤ cap' * τ.size := Nat.mul_le_mul_right τ.size (by simp at hcap; omega)
                rw [Nat.add_mul] at h1
                omega
              obtain ⟨cur', w', hr, q1, q2, q3, q4⟩ := run_storeCells (P := B.P) b' (off' + i' * τ.size + off) T fr vx.cells.toList 0 c w hw (by have := hvx.1; omega) hone (hfr.cell)
              refine ⟨_, Φ', w', hk, run hr, rfl, sat_upd s hg hΦ q2 (blk_own he hcap0) (by rw [blk_own he hcap0, blk_own he hcap0]) ?_ rfl⟩
              refine .own (.inr ⟨b', off', cap', cur', T, fr, by rw [he]; simp, hcap0, q1, hfr.turn q3, by simpa using hm, by simpa using hcap, by rw [q3]; exact hszc, ?_, ?_, ?_⟩)
              · intro k row' hk'
                simp only [List.getElem?_map, List.getElem?_set] at hk'
                by_cases hki : i' = k
                · subst hki
                  rw [if_pos rfl, if_pos hil] at hk'
                  simp at hk'
                  rw [← hk', enc_len]
                · rw [if_neg hki] at hk'
                  exact hrow k row' (by simpa using hk')
              · intro k row' j sv hk' hj
                simp only [List.getElem?_map, List.getElem?_set] at hk'
                by_cases hki : i' = k
                · subst hki
                  rw [if_pos rfl, if_pos hil] at hk'
                  simp at hk'
                  rw [← hk'] at hj
                  exact enc_one τ a' j sv hj
                · rw [if_neg hki] at hk'
                  exact hone' k row' j sv (by simpa using hk') hj
              · intro k row' j sv v hk' hj hv
                have hvl := hvx.1
                rw [q4] at hv
                simp only [Nat.add_zero] at hv
                simp only [List.getElem?_map, List.getElem?_set] at hk'
                by_cases hki : i' = k
                · subst hki
                  rw [if_pos rfl, if_pos hil] at hk'
                  simp at hk'
                  rw [← hk'] at hj
                  have hjl : j < row.length := by
                    have := hent.1
                    rcases Nat.lt_or_ge j row.length with h' | h'
                    · exact h'
                    · rw [List.getElem?_eq_none (by omega)] at hj; cases hj
                  refine (hent.2 j row[j] sv (List.getElem?_eq_getElem hjl) hj).1 _ _ _ ?_
                  have hj0 := h3 j
                  rw [List.getElem?_eq_getElem hjl] at hj0
                  by_cases hjj : off ≤ j ∧ j < off + xs.length
                  · rw [if_pos hjj] at hj0
                    rw [if_pos (by omega)] at hv
                    have e : off' + i' * τ.size + j - (off' + i' * τ.size + off) = j - off := by omega
                    rw [e] at hv
                    exact (hvx.2 _ _ _ hj0.symm hv).pure (SV.okIdsL_get hc2 _ _ hj0.symm) _
                  · rw [if_neg hjj] at hj0
                    rw [if_neg (by omega)] at hv
                    exact hrr i' _ j _ v (by rw [hg0]; simp [List.getElem?_eq_getElem hil]) hj0.symm hv
                · rw [if_neg hki] at hk'
                  have hjs : j < τ.size := by
                    have := hrow k row' (by simpa using hk')
                    rcases Nat.lt_or_ge j row'.length with h | h
                    · omega
                    · rw [List.getElem?_eq_none h] at hj; cases hj
                  have hne : ¬ (off' + i' * τ.size + off ≤ off' + k * τ.size + j ∧ off' + k * τ.size + j < off' + i' * τ.size + off + vx.cells.toList.length) := by
                    rintro ⟨g1, g2⟩
                    rcases Nat.lt_or_gt_of_ne hki with hlt | hgt
                    · have : (i' + 1) * τ.size ≤ k * τ.size := Nat.mul_le_mul_right τ.size hlt
                      rw [Nat.add_mul] at this; omega
                    · have : (k + 1) * τ.size ≤ i' * τ.size := Nat.mul_le_mul_right τ.size hgt
                      rw [Nat.add_mul] at this; omega
                  rw [if_neg hne] at hv
                  exact hrr k row' j sv v (by simpa using hk') hj hv
    · exact h.elim
  · exact h.elim

end Go.Vc

namespace Go.Vc
set_option autoImplicit false
set_option linter.unusedVariables false

/-- the second says no more than the first, and does not name id -/
def Stale (id : Nat) (sv sv' : SV) : Prop := sv' = .und ∨ (sv' = sv ∧ sv.okIds (fun i => !Nat.beq i id) = true)

theorem staleS_sound {id sv} {K : SV → Prop} (h : staleS id sv K) : ∃ sv', K sv' ∧ Stale id sv sv' := by
  unfold staleS at h
  cases hb : sv.okIds (fun i => !Nat.beq i id) with
  | true => rw [hb] at h; exact ⟨_, h, .inr ⟨rfl, hb⟩⟩
  | false => rw [hb] at h; exact ⟨_, h, .inl rfl⟩
theorem staleL_sound {id : Nat} {l : List SV} : ∀ {K : List SV → Prop}, staleL id l K → ∃ l', K l' ∧ l'.length = l.length ∧ ∀ (i : Nat) (sv' : SV), l'[i]? = some sv' → ∃ sv, l[i]? = some sv ∧ Stale id sv sv' := by
  induction l with
  | nil => intro K h; exact ⟨[], h, rfl, fun i sv' h => by simp at h⟩
  | cons x r ih =>
    intro K h
    obtain ⟨y, h, hy⟩ := staleS_sound h
    obtain ⟨l', h, h1, h2⟩ := ih h
    refine ⟨_, h, by simp [h1], fun i sv' hi => ?_⟩
    cases i with
    | zero => simp at hi; subst hi; exact ⟨x, rfl, hy⟩
    | succ i => obtain ⟨sv, q1, q2⟩ := h2 i sv' (by simpa using hi); exact ⟨sv, by simpa using q1, q2⟩
theorem staleE_sound {id : Nat} {σ : Env} : ∀ {K : Env → Prop}, staleE id σ K → ∃ σ', K σ' ∧ ∀ k g sv', Env.get σ' k = some (g, sv') → ∃ sv, Env.get σ k = some (g, sv) ∧ Stale id sv sv' := by
  induction σ with
  | nil => intro K h; exact ⟨[], h, fun k g sv' h => by simp [Env.get] at h⟩
  | cons x r ih =>
    obtain ⟨k0, g0, sv0⟩ := x
    intro K h
    obtain ⟨y, h, hy⟩ := staleS_sound h
    obtain ⟨σ', h, h2⟩ := ih h
    refine ⟨_, h, fun k g sv' hi => ?_⟩
    rw [get_cons] at hi ⊢
    cases hb : Nat.beq k0 k with
    | true => rw [hb] at hi; simp at hi; obtain ⟨rfl, rfl⟩ := hi; exact ⟨sv0, rfl, hy⟩
    | false => rw [hb] at hi; exact h2 k g sv' hi
inductive StaleC (id : Nat) : Chunk → Chunk → Prop
  | same {c} (h : ∀ T cs, c ≠ .bx T cs) : StaleC id c c
  | box {T cs cs'} (hl : cs'.length = cs.length) (h : ∀ (i : Nat) (sv' : SV), cs'[i]? = some sv' → ∃ sv, cs[i]? = some sv ∧ Stale id sv sv') : StaleC id (.bx T cs) (.bx T cs')
theorem staleP_sound {id : Nat} {Φ : Phi} : ∀ {K : Phi → Prop}, staleP id Φ K → ∃ Φ', K Φ' ∧ ∀ j, (∀ c', Phi.get Φ' j = some c' → ∃ c, Phi.get Φ j = some c ∧ StaleC id c c') ∧ (∀ c, Phi.get Φ j = some c → ∃ c', Phi.get Φ' j = some c') := by
  induction Φ with
  | nil => intro K h; exact ⟨[], h, fun j => ⟨fun c' h => by simp [Phi.get] at h, fun c h => by simp [Phi.get] at h⟩⟩
  | cons x r ih =>
    obtain ⟨k, c⟩ := x
    intro K h
    have : ∃ c', StaleC id c c' ∧ staleP id r fun l => K ((k, c') :: l) := by
      unfold staleP at h
      cases c with
      | bx _ cs => obtain ⟨l', h, h1, h2⟩ := staleL_sound h; exact ⟨_, .box h1 h2, h⟩
      | own τ l => exact ⟨_, .same (by intro _ cs h; cases h), h⟩
      | ro => exact ⟨_, .same (by intro _ cs h; cases h), h⟩
      | iter s pos => exact ⟨_, .same (by intro _ cs h; cases h), h⟩
      | gh i => exact ⟨_, .same (by intro _ cs h; cases h), h⟩
      | mp κ τ l => exact ⟨_, .same (by intro _ cs h; cases h), h⟩
    obtain ⟨c', hc, h⟩ := this
    obtain ⟨Φ', h, hg⟩ := ih h
    refine ⟨_, h, fun j => ?_⟩
    rw [phi_cons, phi_cons]
    cases hb : Nat.beq k j with
    | true => exact ⟨fun c1 h => by simp at h; subst h; exact ⟨c, rfl, hc⟩, fun c1 h => ⟨c', rfl⟩⟩
    | false => exact hg j

theorem Stale.rel {id sv sv'} (h : Stale id sv sv') {r β v} (hr : Rel r β sv v) (v' : Value) : Rel r (setB β id v') sv' v := by
  rcases h with rfl | ⟨rfl, ho⟩
  · exact .und
  · exact hr.bind (p := fun i => !Nat.beq i id) (fun i hi => setB_ok i hi) ho

theorem StaleC.blk {id c c'} (h : StaleC id c c') (x : Value) : c'.blk x = c.blk x := by
  cases h with
  | same => rfl
  | box => exact blk_box' _ _ _ _

theorem boxKeep {id : Nat} {Φ Φ' : Phi} (h : ∀ j, (∀ c', Phi.get Φ' j = some c' → ∃ c, Phi.get Φ j = some c ∧ StaleC id c c') ∧ (∀ c, Phi.get Φ j = some c → ∃ c', Phi.get Φ' j = some c')) (j : Nat) (T : Option Nat) (cs : List SV)
    (hj : Phi.get Φ j = some (.bx T cs)) : ∃ cs', Phi.get Φ' j = some (.bx T cs') := by
  obtain ⟨c', h1⟩ := (h j).2 _ hj
  obtain ⟨c, h2, h3⟩ := (h j).1 _ h1
  rw [hj] at h2
  cases h2
  cases h3 with
  | same hn => exact absurd rfl (hn T cs)
  | box _ _ => exact ⟨_, h1⟩

theorem StaleC.kind {id c c'} (h : StaleC id c c') : c'.kind = c.kind := by
  cases h <;> rfl
/-- a chunk is written, and gets another header -/
theorem mem_head {r β Φ w} {id : Nat} {ch ch' : Chunk} {v' : Value} {w' : World} {Φ1 Φ' : Phi} (m : MemSat r β Φ w) (hid : Phi.get Φ id = some ch)
    (hΦ1 : ∀ j, (∀ c', Phi.get Φ1 j = some c' → ∃ c, Phi.get Φ j = some c ∧ StaleC id c c') ∧ (∀ c, Phi.get Φ j = some c → ∃ c', Phi.get Φ1 j = some c'))
    (hΦ : ∀ j, Phi.get Φ' j = bif Nat.beq id j then some ch' else Phi.get Φ1 j)
    (hos : w'.os = w.os) (ht : w'.tape = w.tape) (hout : w'.output = w.output) (hsz : w.heap.size ≤ w'.heap.size)
    (hold : ∀ b, b < w.heap.size → ch.blk (β id) ≠ some b → w'.heap[b]? = w.heap[b]?)
    (hblk : ∀ b, ch'.blk v' = some b → ch.blk (β id) = some b ∨ w.heap.size ≤ b)
    (hch : ch'.Sat r (setB β id v') w' v') (hk0 : ch.kind = 0) : MemSat r (setB β id v') Φ' w' ∧ Hid r β Φ w r (setB β id v') Φ' w' := by
  have get : ∀ j c, Phi.get Φ' j = some c → (j = id ∧ c = ch') ∨ (j ≠ id ∧ ∃ c0, Phi.get Φ j = some c0 ∧ StaleC id c0 c) := by
    intro j c h
    rw [hΦ] at h
    cases hq : Nat.beq id j with
    | true => obtain rfl := beq_of hq; rw [hq] at h; simp at h; exact .inl ⟨rfl, h.symm⟩
    | false => rw [hq] at h; exact .inr ⟨(fun he => by (subst he; rw [Nat.beq_refl] at hq; cases hq)), (hΦ1 j).1 c h⟩
  have blk : ∀ j c b, Phi.get Φ' j = some c → c.blk (setB β id v' j) = some b → (∃ c0, Phi.get Φ j = some c0 ∧ c0.blk (β j) = some b) ∨ (j = id ∧ w.heap.size ≤ b) := by
    intro j c b h1 h2
    rcases get j c h1 with ⟨rfl, rfl⟩ | ⟨hne, c0, h, hs⟩
    · rw [setB_self] at h2
      rcases hblk b h2 with h | h
      · exact .inl ⟨ch, hid, h⟩
      · exact .inr ⟨rfl, h⟩
    · rw [setB_ne hne, hs.blk] at h2
      exact .inl ⟨c0, h, h2⟩
  have alive : ∀ j c b, Phi.get Φ j = some c → c.blk (β j) = some b → b < w.heap.size := fun j c b h1 h2 => (m.chs _ _ h1).alive h2
  refine ⟨⟨fun b o h => ?_, fun j c h => ?_, fun j c b h1 h2 => ?_, fun j j' c c' b h1 h1' h2 h2' => ?_⟩,
    hos, ht, hout, hsz, fun b hb' p1 p2 => ⟨hold b hb' (p2 _ _ hid), p1, fun j c h hc => ?_⟩, fun j c h hk => ?_⟩
  · have hv := m.vis _ _ h
    rw [hold b (lt_of_heap hv) (fun hc => by rw [m.sep _ _ _ hid hc] at h; cases h)]
    exact hv
  · rcases get j c h with ⟨rfl, rfl⟩ | ⟨hne, c0, h0, hs⟩
    · rw [setB_self]; exact hch
    · rw [setB_ne hne]
      have hkeep : ∀ b, c0.blk (β j) = some b → w'.heap[b]? = w.heap[b]? := fun b hb => hold b (alive _ _ _ h0 hb) (fun hc => hne (m.nod _ _ _ _ _ h0 hid hb hc))
      have hsat := m.chs _ _ h0
      cases hs with
      | same hnb => exact hsat.keep (Mem.le_refl r) hkeep (fun T cells he => (hnb T cells he).elim)
      | box hl hst =>
        cases hsat with
        | box hx hw hlc hc hT =>
          refine .box hx (by rw [hkeep _ (by rw [hx]; rfl)]; exact hw) (by rw [hlc, hl]) (fun i sv v p1 p2 => ?_) hT
          obtain ⟨sv0, q1, q2⟩ := hst i sv p1
          exact q2.rel (hc i sv0 v q1 p2) v'
  · rcases blk _ _ _ h1 h2 with ⟨c0, q1, q2⟩ | ⟨rfl, q⟩
    · exact m.sep _ _ _ q1 q2
    · cases hr : r b with
      | none => rfl
      | some o' => exact absurd (lt_of_heap (m.vis _ _ hr)) (by omega)
  · rcases blk _ _ _ h1 h2 with ⟨c0, q1, q2⟩ | ⟨rfl, q⟩ <;> rcases blk _ _ _ h1' h2' with ⟨c1, q1', q2'⟩ | ⟨rfl, q'⟩
    · exact m.nod _ _ _ _ _ q1 q1' q2 q2'
    · exact absurd (alive _ _ _ q1 q2) (by omega)
    · exact absurd (alive _ _ _ q1' q2') (by omega)
    · rfl
  · rcases blk _ _ _ h hc with ⟨c0, q1, q2⟩ | ⟨rfl, q⟩
    · exact p2 _ _ q1 q2
    · omega
  · have hne : j ≠ id := by
      rintro rfl
      rw [hid] at h; cases h; exact hk hk0
    obtain ⟨c1, h1⟩ := (hΦ1 j).2 c h
    obtain ⟨c2, h2, h3⟩ := (hΦ1 j).1 c1 h1
    rw [h] at h2; cases h2
    refine ⟨setB_ne hne, c1, ?_, h3.kind⟩
    rw [hΦ, nbeq_of (fun he => hne he.symm)]
    exact h1
theorem sat_head {B : Base} {e N r β σ Φ a w} {id : Nat} {ch ch' : Chunk} {v' : Value} {w' : World} {σ' : Env} {Φ1 Φ' : Phi} (s : Sat B e N r β σ Φ a w) (hid : Phi.get Φ id = some ch)
    (hσ : ∀ k g sv', Env.get σ' k = some (g, sv') → ∃ sv, Env.get σ k = some (g, sv) ∧ Stale id sv sv')
    (hΦ1 : ∀ j, (∀ c', Phi.get Φ1 j = some c' → ∃ c, Phi.get Φ j = some c ∧ StaleC id c c') ∧ (∀ c, Phi.get Φ j = some c → ∃ c', Phi.get Φ1 j = some c'))
    (hΦ : ∀ j, Phi.get Φ' j = bif Nat.beq id j then some ch' else Phi.get Φ1 j)
    (hos : w'.os = w.os) (ht : w'.tape = w.tape) (hout : w'.output = w.output) (hsz : w.heap.size ≤ w'.heap.size)
    (hold : ∀ b, b < w.heap.size → ch.blk (β id) ≠ some b → w'.heap[b]? = w.heap[b]?)
    (hblk : ∀ b, ch'.blk v' = some b → ch.blk (β id) = some b ∨ w.heap.size ≤ b)
    (hch : ch'.Sat r (setB β id v') w' v') (hk0 : ch.kind = 0) : Sat B e N r (setB β id v') σ' Φ' a w' := by
  obtain ⟨h1, h2⟩ := mem_head s.mem hid hΦ1 hΦ hos ht hout hsz hold hblk hch hk0
  refine s.step (s.agree.of fun k g sv' hg => ?_) h1 (Mem.le_refl r) h2
  obtain ⟨sv, q1, q2⟩ := hσ k g sv' hg
  exact ⟨sv, q1, fun v hr => q2.rel hr v'⟩

/-- new rows, as cells -/
structure NewRows (r : Mem) (sz m : Nat) (rows : List (List SV)) (news : List Value) : Prop where
  len : rows.length = m
  size : news.length = m * sz
  row : ∀ (i : Nat) (row : List SV), rows[i]? = some row → row.length = sz
  rel : ∀ (i : Nat) (row : List SV) (j : Nat) (sv : SV) (v : Value), rows[i]? = some row → row[j]? = some sv → news[i * sz + j]? = some v → Rel r β0 sv v
  one : ∀ (i : Nat) (row : List SV) (j : Nat) (sv : SV), rows[i]? = some row → row[j]? = some sv → sv.one = true
  ones : ∀ v ∈ news, v.oneCell' = true

def blkOf : Value → Option Nat
  | .slice (some a) _ cap => bif Nat.beq cap 0 then none else some a.block
  | _ => none
theorem blk_own_eq (τ : Ty) (l : List τ.T) (x : Value) : (Chunk.own τ l).blk x = blkOf x := by
  cases x <;> first | rfl | (rename_i a _ _; cases a <;> rfl)

theorem RowsAt.app {r : Mem} {sz n m : Nat} {rows new : List (List SV)} {news : List Value} {c c' : Array Value} {off : Nat}
    (hn : rows.length = n) (nr : NewRows r sz m new news)
    (hrow : ∀ (i : Nat) (row : List SV), rows[i]? = some row → row.length = sz)
    (hrel : ∀ (i : Nat) (row : List SV) (j : Nat) (sv : SV) (v : Value), rows[i]? = some row → row[j]? = some sv → c[off + i * sz + j]? = some v → Rel r β0 sv v)
    {off' : Nat} (hold : ∀ j, j < n * sz → c'[off' + j]? = c[off + j]?) (hnew : ∀ j, j < m * sz → c'[off' + n * sz + j]? = news[j]?) :
    (∀ (i : Nat) (row : List SV), (rows ++ new)[i]? = some row → row.length = sz) ∧
    (∀ (i : Nat) (row : List SV) (j : Nat) (sv : SV) (v : Value), (rows ++ new)[i]? = some row → row[j]? = some sv → c'[off' + i * sz + j]? = some v → Rel r β0 sv v) := by
  have lt : ∀ {l : List SV} {j : Nat} {sv}, l[j]? = some sv → j < l.length := by
    intro l j sv h
    rcases Nat.lt_or_ge j l.length with h' | h'
    · exact h'
    · rw [List.getElem?_eq_none h'] at h; cases h
  have ltr : ∀ {l : List (List SV)} {j : Nat} {sv}, l[j]? = some sv → j < l.length := by
    intro l j sv h
    rcases Nat.lt_or_ge j l.length with h' | h'
    · exact h'
    · rw [List.getElem?_eq_none h'] at h; cases h
  refine ⟨fun i row hi => ?_, fun i row j sv v hi hj hv => ?_⟩
  · rw [List.getElem?_append] at hi
    split at hi
    · exact hrow _ _ hi
    · exact nr.row _ _ hi
  · rw [List.getElem?_append] at hi
    split at hi
    · rename_i hlt
      have hjs : j < sz := by have := hrow _ _ hi; have := lt hj; omega
      have hb : i * sz + j < n * sz := by
        have : (i + 1) * sz ≤ n * sz := Nat.mul_le_mul_right sz (by omega)
        rw [Nat.add_mul] at this; omega
      rw [Nat.add_assoc, hold _ hb, ← Nat.add_assoc] at hv
      exact hrel i row j sv v hi hj hv
    · rename_i hge
      have hjs : j < sz := by have := nr.row _ _ hi; have := lt hj; omega
      have him := ltr hi
      rw [nr.len] at him
      have hb : (i - n) * sz + j < m * sz := by
        have : (i - n + 1) * sz ≤ m * sz := Nat.mul_le_mul_right sz (by omega)
        rw [Nat.add_mul] at this; omega
      have e : off' + i * sz + j = off' + n * sz + ((i - n) * sz + j) := by
        have : i * sz = n * sz + (i - n) * sz := by rw [← Nat.add_mul]; congr 1; omega
        omega
      rw [e, hnew _ hb] at hv
      rw [hn] at hi
      exact nr.rel _ _ _ _ _ hi hj hv

theorem one_app {r : Mem} {sz m : Nat} {rows new : List (List SV)} {news : List Value}
    (h : ∀ (i : Nat) (row : List SV) (j : Nat) (sv : SV), rows[i]? = some row → row[j]? = some sv → sv.one = true) (nr : NewRows r sz m new news) :
    ∀ (i : Nat) (row : List SV) (j : Nat) (sv : SV), (rows ++ new)[i]? = some row → row[j]? = some sv → sv.one = true := by
  intro i row j sv hi hj
  rw [List.getElem?_append] at hi
  split at hi
  · exact h _ _ _ _ hi hj
  · exact nr.one _ _ _ _ hi hj

set_option maxHeartbeats 1000000 in
theorem run_append {P : Program} {r : Mem} {w : World} {t tx e ty : TypeId} {dx : TypeDesc} {i : TypeInfo} {z : Value} (ht : P.underlying t = some (.slice e)) (hx : P.underlying tx = some dx)
    (hni : dx = .string ∨ ∃ e', dx = .slice e') (hi : P.info? e = some i) (hz : i.zero = some z) (hzs : z.cells.size = i.size) (hsz : i.size ≠ 0)
    {v xv : Value} {rows new : List (List SV)} {news : List Value} {m : Nat} {bt : Bool} (h5 : bt = true → e = 5) (hv : RowsAt r w v bt i.size rows) (nr : NewRows r i.size m new news)
    (hlen : ∀ w', (Builtin.lenOf xv).run P w' = .ok m w') (hnews : ∀ w', w'.heap = w.heap → (Builtin.firstCells i.size m xv).run P w' = .ok news.toArray w')
    (hb : (rows.length + m) * i.bytes ≤ 70368744177664) (hb2 : rows.length + m ≤ 70368744177664) :
    ∃ v' w', (Builtin.append_ #[t, tx] ty #[v, xv]).run P w = .ok v' w' ∧ RowsAt r w' v' bt i.size (rows ++ new) ∧ w'.os = w.os ∧ w'.tape = w.tape ∧ w'.output = w.output ∧ w.heap.size ≤ w'.heap.size ∧
      (∀ b, b < w.heap.size → blkOf v ≠ some b → w'.heap[b]? = w.heap[b]?) ∧ (∀ b, blkOf v' = some b → blkOf v = some b ∨ w.heap.size ≤ b) := by
  have hrow0 : ∀ (i' : Nat) (row : List SV), ([] : List (List SV))[i']? = some row → row.length = i.size := by intro i' row h; simp at h
  -- where it must grow
  have grow : ∀ (a0 : Option Addr) (cap : Nat) (olds : List Value), v = .slice a0 rows.length cap → ¬ (rows.length + m ≤ cap) → olds.length = rows.length * i.size →
      (∀ w', w'.heap = w.heap → (Builtin.firstCells i.size rows.length v).run P w' = .ok olds.toArray w') →
      (∀ (i' : Nat) (row : List SV), rows[i']? = some row → row.length = i.size) →
      (∀ (i' : Nat) (row : List SV) (j : Nat) (sv : SV), rows[i']? = some row → row[j]? = some sv → sv.one = true) →
      (∀ (i' : Nat) (row : List SV) (j : Nat) (sv : SV) (u : Value), rows[i']? = some row → row[j]? = some sv → olds[i' * i.size + j]? = some u → Rel r β0 sv u) →
      ∃ v' w', (Builtin.append_ #[t, tx] ty #[v, xv]).run P w = .ok v' w' ∧ RowsAt r w' v' bt i.size (rows ++ new) ∧ w'.os = w.os ∧ w'.tape = w.tape ∧ w'.output = w.output ∧ w.heap.size ≤ w'.heap.size ∧
      (∀ b, b < w.heap.size → blkOf v ≠ some b → w'.heap[b]? = w.heap[b]?) ∧ (∀ b, blkOf v' = some b → blkOf v = some b ∨ w.heap.size ≤ b) := by
    intro a0 cap olds hve hn holen holds hrow hone hrel
    have h63 : ¬ ((9223372036854775807 : Int) < ((rows.length + m : Nat) : Int)) := by omega
    have hfit : Builtin.nextslicecap (rows.length + m) cap * i.bytes ≤ 281474976710656 := growslice_fits (by omega) (by omega)
    have h48 : ¬ (281474976710656 < Builtin.nextslicecap (rows.length + m) cap * i.bytes) := by omega
    have hge : rows.length + m ≤ grownCap w (rows.length + m) cap e := grownCap_ge w _ _ _
    refine ⟨.slice (some ⟨w.heap.size, 0, none⟩) (rows.length + m) (grownCap w (rows.length + m) cap e),
      { w with heap := w.heap.push (.cells (olds.toArray ++ (news.toArray ++ Builtin.zeroCells z.cells (grownCap w (rows.length + m) cap e - (rows.length + m)))) e), drawn := w.drawn + 1 }, ?_, ?_, rfl, rfl, rfl, ?_, ?_, ?_⟩
    · have hf := hnews w.drew rfl
      have hfo := holds w.drew rfl
      rw [hve] at hfo ⊢
      have hl := hlen w
      have h63' : ¬ (9223372036854775807 < (rows.length : Int) + (m : Int)) := by omega
      rcases hni with rfl | ⟨e', rfl⟩
      all_goals
        simp [Builtin.append_, run_underlying ht, run_underlying hx, sizeOf, typeInfo, zeroValue, hi, hz, hl, hn, h63', h48, Question.forced, hf, hfo, newRow, grownCap]
        rfl
    · have hg0 : grownCap w (rows.length + m) cap e ≠ 0 := by omega
      have hzc : (Builtin.zeroCells z.cells (grownCap w (rows.length + m) cap e - (rows.length + m))).size = (grownCap w (rows.length + m) cap e - (rows.length + m)) * i.size := by rw [size_zeroCells, hzs]
      have hnl := nr.size
      have hap := RowsAt.app (c := olds.toArray) (c' := olds.toArray ++ (news.toArray ++ Builtin.zeroCells z.cells (grownCap w (rows.length + m) cap e - (rows.length + m)))) (off := 0) (off' := 0) (n := rows.length) rfl nr hrow
        (fun i' row j sv u q1 q2 q3 => hrel i' row j sv u q1 q2 (by simpa using q3))
        (fun j hj => by rw [Nat.zero_add, Array.getElem?_append_left (by simp; omega)])
        (fun j hj => by
          rw [Nat.zero_add, Array.getElem?_append_right (by simp; omega)]
          simp only [List.size_toArray, holen, Nat.add_sub_cancel_left]
          rw [Array.getElem?_append_left (by simp; omega)]
          simp)
      refine .inr ⟨w.heap.size, 0, grownCap w (rows.length + m) cap e, _, e, (0, 0), ?_, hg0, heap_alloc_eq (w := { w with drawn := w.drawn + 1 }), ⟨fun h => ⟨h5 h, rfl⟩, .inl rfl⟩, ?_, ?_, ?_, hap.1, one_app hone nr, hap.2⟩
      · rw [List.length_append, nr.len]
      · exact grownCap_le_maxLen w _ _ _ (by show rows.length + m ≤ 2 ^ 63 - 1; omega)
      · rw [List.length_append, nr.len]; exact hge
      · simp only [Array.size_append, List.size_toArray, hzc, holen, hnl, Nat.zero_add]
        rw [← Nat.add_mul, ← Nat.add_mul]
        exact Nat.mul_le_mul_right _ (by omega)
    · show w.heap.size ≤ (w.heap.push _).size; simp
    · intro b hb' _
      exact heap_alloc_lt (w := { w with drawn := w.drawn + 1 }) hb'
    · intro b hb'
      have : grownCap w (rows.length + m) cap e ≠ 0 := by omega
      simp only [blkOf, nbeq_of this, cond_false, Option.some.injEq] at hb'
      right; omega
  rcases hv with ⟨a, hve, hr0⟩ | ⟨b, off, cap, c, T, fr, hve, hc0, hw, hfr, hm1, hcap, hszc, hrow, hone, hrel⟩
  · subst hr0
    by_cases hm : m = 0
    · subst hm
      have hnn : new = [] := List.length_eq_zero_iff.1 nr.len
      have hne : news = [] := List.length_eq_zero_iff.1 (by simpa using nr.size)
      subst hnn; subst hne
      refine ⟨v, w, ?_, .inl ⟨a, hve, rfl⟩, rfl, rfl, rfl, Nat.le_refl _, fun _ _ _ => rfl, fun b hb => ?_⟩
      · rw [hve]
        have hl := hlen w
        have hf := hnews w rfl
        rcases hni with rfl | ⟨e', rfl⟩
        all_goals
          simp only [List.length_nil] at *
          simp [Builtin.append_, run_underlying ht, run_underlying hx, sizeOf, typeInfo, hi, hl, hf]
          cases a <;> simp [storeCells]
      · rw [hve] at hb; cases a <;> simp [blkOf] at hb
    · refine grow a 0 [] (by simpa using hve) (by simp; omega) (by simp) (fun w' _ => ?_) hrow0 (fun i' row j sv q1 => by simp at q1) (fun i' row j sv u q1 => by simp at q1)
      rw [hve]
      cases a <;> simp [Builtin.firstCells, loadCells, loadCellsFrom]
  · have hbl : blkOf v = some b := by rw [hve]; simp only [blkOf, nbeq_of hc0]; rfl
    by_cases hroom : rows.length + m ≤ cap
    · have hfit : off + rows.length * i.size + 0 + news.length ≤ c.size := by
        rw [nr.size]
        have := Nat.mul_le_mul_right i.size hroom
        rw [Nat.add_mul] at this
        omega
      obtain ⟨cur', w', hst, q1, q2, q3, q4⟩ := run_storeCells (P := P) b (off + rows.length * i.size) T fr news 0 c w hw hfit nr.ones (hfr.cell)
      refine ⟨.slice (some ⟨b, off, none⟩) (rows.length + m) cap, w', ?_, ?_, q2.os, q2.tape, q2.output, by rw [q2.size]; exact Nat.le_refl _, fun b' _ hb' => q2.old b' (fun he => hb' (he ▸ hbl)), fun b' hb' => ?_⟩
      · rw [hve]
        have hl := hlen w
        have hf := hnews w rfl
        rcases hni with rfl | ⟨e', rfl⟩
        all_goals
          simp [Builtin.append_, run_underlying ht, run_underlying hx, sizeOf, typeInfo, hi, hl, hf, hroom, add_mk, hst]
      · have hap := RowsAt.app (c := c) (c' := cur') (off := off) (off' := off) (n := rows.length) rfl nr hrow hrel
          (fun j hj => by rw [q4, if_neg (by omega)])
          (fun j hj => by
            rw [q4, if_pos (by have := nr.size; omega)]
            congr 1; omega)
        refine .inr ⟨b, off, cap, cur', T, fr, by rw [List.length_append, nr.len], hc0, q1, hfr.turn q3, hm1, by rw [List.length_append, nr.len]; exact hroom, by rw [q3]; exact hszc, hap.1, one_app hone nr, hap.2⟩
      · simp only [blkOf, nbeq_of hc0, cond_false, Option.some.injEq] at hb'
        left; rw [hbl, ← hb']
    · -- it grows
      have hbnd : ∀ j, j < rows.length * i.size → off + j < c.size := by
        intro j hj
        have := Nat.mul_le_mul_right i.size hcap
        omega
      refine grow (some ⟨b, off, none⟩) cap ((List.range (rows.length * i.size)).map fun j => c.getD (off + j) undef) hve hroom (by simp) (fun w' hw' => ?_) hrow hone (fun i' row j sv u q1 q2 q3 => ?_)
      · rw [hve]
        have hw'' : w'.heap[b]? = some (.cells c T fr) := by rw [hw']; exact hw
        have := run_loadCells (P := P) w' ⟨b, off, none⟩ (rows.length * i.size) (fun j => c.getD (off + j) undef) (fun j hj => by
          rw [add_mk, cell_of_block hw'']
          simp [Array.getD_eq_getD_getElem?, hbnd j hj])
        simp only [Builtin.firstCells, this]
      · have hlt : i' * i.size + j < rows.length * i.size := by
          rcases Nat.lt_or_ge (i' * i.size + j) (rows.length * i.size) with h | h
          · exact h
          · rw [List.getElem?_eq_none (by simpa using h)] at q3; cases q3
        rw [List.getElem?_map, List.getElem?_range hlt] at q3
        simp only [Option.map_some, Option.some.injEq] at q3
        refine hrel i' row j sv u q1 q2 ?_
        rw [Nat.add_assoc, ← q3, Array.getD_eq_getD_getElem?, Array.getElem?_eq_getElem (hbnd _ hlt)]
        rfl

end Go.Vc

namespace Go.Vc
set_option autoImplicit false
set_option linter.unusedVariables false
set_option linter.unusedSimpArgs false

theorem rows_news {P : Program} {r : Mem} {w : World} {sz : Nat} {rows : List (List SV)} {b off cap : Nat} {c : Array Value} {T : TypeId} {fr : Nat × Nat}
    (hw : w.heap[b]? = some (.cells c T fr)) (hc : off + rows.length * sz ≤ c.size)
    (hrow : ∀ (i : Nat) (row : List SV), rows[i]? = some row → row.length = sz)
    (hone : ∀ (i : Nat) (row : List SV) (j : Nat) (sv : SV), rows[i]? = some row → row[j]? = some sv → sv.one = true)
    (hrel : ∀ (i : Nat) (row : List SV) (j : Nat) (sv : SV) (v : Value), rows[i]? = some row → row[j]? = some sv → c[off + i * sz + j]? = some v → Rel r β0 sv v) :
    ∃ news, NewRows r sz rows.length rows news ∧ ∀ w', w'.heap = w.heap → (Builtin.firstCells sz rows.length (.slice (some ⟨b, off, none⟩) rows.length cap)).run P w' = .ok news.toArray w' := by
  have hbnd : ∀ j, j < rows.length * sz → off + j < c.size := by intro j hj; omega
  have get : ∀ (j : Nat) (u : Value), ((List.range (rows.length * sz)).map fun j => c.getD (off + j) undef)[j]? = some u → j < rows.length * sz ∧ c[off + j]? = some u := by
    intro j u h
    have hlt : j < rows.length * sz := by have := lt_len h; simpa using this
    rw [List.getElem?_map, List.getElem?_range hlt] at h
    simp only [Option.map_some, Option.some.injEq] at h
    refine ⟨hlt, ?_⟩
    rw [← h, Array.getD_eq_getD_getElem?, Array.getElem?_eq_getElem (hbnd _ hlt)]
    rfl
  refine ⟨(List.range (rows.length * sz)).map fun j => c.getD (off + j) undef, ⟨rfl, by simp, hrow, fun i row j sv v h1 h2 h3 => ?_, hone, fun v hv => ?_⟩, fun w' hw' => ?_⟩
  · have := (get _ _ h3).2
    rw [← Nat.add_assoc] at this
    exact hrel _ _ _ _ _ h1 h2 this
  · obtain ⟨k, hk, rfl⟩ := List.getElem_of_mem hv
    obtain ⟨hlt, hcv⟩ := get k _ (List.getElem?_eq_getElem hk)
    have hsz : 0 < sz := by
      rcases Nat.eq_zero_or_pos sz with h | h
      · subst h; simp at hlt
      · exact h
    have hi : k / sz < rows.length := (Nat.div_lt_iff_lt_mul hsz).2 hlt
    have h1 : rows[k / sz]? = some rows[k / sz] := List.getElem?_eq_getElem hi
    have hrl := hrow _ _ h1
    have hj : k % sz < rows[k / sz].length := by rw [hrl]; exact Nat.mod_lt _ hsz
    have h2 : rows[k / sz][k % sz]? = some rows[k / sz][k % sz] := List.getElem?_eq_getElem hj
    have e : k / sz * sz + k % sz = k := by rw [Nat.mul_comm]; exact Nat.div_add_mod k sz
    exact (hrel _ _ _ _ _ h1 h2 (by rw [Nat.add_assoc, e]; exact hcv)).oneCell (hone _ _ _ _ h1 h2)
  · have hw'' : w'.heap[b]? = some (.cells c T fr) := by rw [hw']; exact hw
    have := run_loadCells (P := P) w' ⟨b, off, none⟩ (rows.length * sz) (fun j => c.getD (off + j) undef) (fun j hj => by
      rw [add_mk, cell_of_block hw'']
      simp [Array.getD_eq_getD_getElem?, hbnd j hj])
    simp only [Builtin.firstCells, this]

theorem news_empty {P : Program} {r : Mem} {w : World} {sz : Nat} (a : Option Addr) (cap : Nat) :
    ∃ news, NewRows r sz 0 [] news ∧ ∀ w', w'.heap = w.heap → (Builtin.firstCells sz 0 (.slice a 0 cap)).run P w' = .ok news.toArray w' := by
  refine ⟨[], ⟨rfl, by simp, fun i row h => by simp at h, fun i row j sv v h => by simp at h, fun i row j sv h => by simp at h, fun v hv => by cases hv⟩, fun w' _ => ?_⟩
  cases a <;> simp [Builtin.firstCells, loadCells, loadCellsFrom]

theorem lits_news {P : Program} {r : Mem} {β : Bind} {w : World} {sz : Nat} {rows : List (List SV)} {x : Value} (h : Rel r β (.lits sz rows) x) (hvis : ∀ b o, r b = some o → w.heap[b]? = some o) :
    ∃ news, NewRows r sz rows.length rows news ∧ (∀ w', (Builtin.lenOf x).run P w' = .ok rows.length w') ∧ ∀ w', w'.heap = w.heap → (Builtin.firstCells sz rows.length x).run P w' = .ok news.toArray w' := by
  cases h with
  | litsE => obtain ⟨news, h1, h2⟩ := news_empty (P := P) (r := r) (w := w) (sz := sz) _ _; exact ⟨news, h1, fun w' => rfl, h2⟩
  | lits hb hn hcap hrow ho hc hr =>
    rename_i b off cap c T fr
    obtain ⟨news, h1, h2⟩ := rows_news (P := P) (cap := cap) (hvis _ _ hb) hc hrow ho hr
    exact ⟨news, h1, fun w' => rfl, h2⟩

theorem rowsAt_news {P : Program} {r : Mem} {w : World} {sz : Nat} {rows : List (List SV)} {bt : Bool} {x : Value} (h : RowsAt r w x bt sz rows) :
    ∃ news, NewRows r sz rows.length rows news ∧ (∀ w', (Builtin.lenOf x).run P w' = .ok rows.length w') ∧ ∀ w', w'.heap = w.heap → (Builtin.firstCells sz rows.length x).run P w' = .ok news.toArray w' := by
  rcases h with ⟨a, rfl, rfl⟩ | ⟨b, off, cap, c, T, fr, rfl, hc0, hw, hfr, hm1, hcap, hszc, hrow, hone, hrel⟩
  · obtain ⟨news, h1, h2⟩ := news_empty (P := P) (r := r) (w := w) (sz := sz) a 0; exact ⟨news, h1, fun w' => rfl, h2⟩
  · have : off + rows.length * sz ≤ c.size := by have := Nat.mul_le_mul_right sz hcap; omega
    obtain ⟨news, h1, h2⟩ := rows_news (P := P) (cap := cap) hw this hrow hone hrel
    exact ⟨news, h1, fun w' => rfl, h2⟩

theorem str_news {P : Program} {r : Mem} {w : World} (l : List UInt8) :
    ∃ news, NewRows r 1 l.length (l.map (Ty.enc .byte)) news ∧ (∀ w', (Builtin.lenOf (.string ⟨l.toArray⟩)).run P w' = .ok l.length w') ∧ ∀ w', w'.heap = w.heap → (Builtin.firstCells 1 l.length (.string ⟨l.toArray⟩)).run P w' = .ok news.toArray w' := by
  refine ⟨l.map fun b => .int .u8 b.toNat, ⟨by simp, by simp, fun i row h => ?_, fun i row j sv v h1 h2 h3 => ?_, fun i row j sv h1 h2 => ?_, fun v hv => ?_⟩, fun w' => by simp [Builtin.lenOf, ByteArray.size], fun w' _ => ?_⟩
  · rw [List.getElem?_map] at h
    cases hq : l[i]? with
    | none => rw [hq] at h; cases h
    | some b => rw [hq] at h; simp at h; subst h; rfl
  · rw [List.getElem?_map] at h1
    cases hq : l[i]? with
    | none => rw [hq] at h1; cases h1
    | some b =>
      rw [hq] at h1
      simp at h1
      subst h1
      cases j with
      | zero =>
        simp [Ty.enc] at h2
        subst h2
        rw [List.getElem?_map] at h3
        simp only [Nat.mul_one, Nat.add_zero, hq, Option.map_some, Option.some.injEq] at h3
        subst h3
        exact .int
      | succ j => simp [Ty.enc] at h2
  · rw [List.getElem?_map] at h1
    cases hq : l[i]? with
    | none => rw [hq] at h1; cases h1
    | some b =>
      rw [hq] at h1
      simp at h1
      subst h1
      cases j with
      | zero => simp [Ty.enc] at h2; subst h2; rfl
      | succ j => simp [Ty.enc] at h2
  · obtain ⟨b, _, rfl⟩ := List.mem_map.1 hv; rfl
  · have : (ByteArray.mk l.toArray).extract 0 l.length = ByteArray.mk l.toArray := by rw [ByteArray.extract_mk]; simp
    simp [Builtin.firstCells, this]

theorem NewRows.ent {r sz m rows news} {τ : Ty} {l : List τ.T} (nr : NewRows r sz m rows news) (h : EntRows τ rows l) (hs : sz = τ.size) : NewRows r sz m (l.map τ.enc) news := by
  have key : ∀ (i : Nat) (row : List SV), (l.map τ.enc)[i]? = some row → ∃ row0, rows[i]? = some row0 ∧ Entl row0 row := by
    intro i row hi
    rw [List.getElem?_map] at hi
    cases hq : l[i]? with
    | none => rw [hq] at hi; cases hi
    | some a =>
      rw [hq] at hi
      simp at hi
      subst hi
      have hlt : i < rows.length := by have := lt_len hq; rw [← h.1]; exact this
      exact ⟨rows[i], List.getElem?_eq_getElem hlt, h.2 i _ a (List.getElem?_eq_getElem hlt) hq⟩
  refine ⟨by simp [h.1, nr.len], nr.size, fun i row hi => ?_, fun i row j sv v hi hj hv => ?_, fun i row j sv hi hj => ?_, nr.ones⟩
  · obtain ⟨row0, g1, g2⟩ := key i row hi; rw [g2.1]; exact nr.row _ _ g1
  · obtain ⟨row0, g1, g2⟩ := key i row hi
    have hjl : j < row0.length := by have := lt_len hj; rw [← g2.1]; exact this
    exact (g2.2 j _ sv (List.getElem?_eq_getElem hjl) hj).1 _ _ _ (nr.rel _ _ _ _ _ g1 (List.getElem?_eq_getElem hjl) hv)
  · obtain ⟨row0, g1, g2⟩ := key i row hi
    have hjl : j < row0.length := by have := lt_len hj; rw [← g2.1]; exact this
    exact (g2.2 j _ sv (List.getElem?_eq_getElem hjl) hj).2.1 (nr.one _ _ _ _ g1 (List.getElem?_eq_getElem hjl))

theorem srcK_sound {P : Program} {Φ : Phi} {e : TypeId} {τ : Ty} {x : SV} {K : List τ.T → Prop} (h : srcK P Φ e τ x K) :
    ∃ l, K l ∧ ∃ i, P.info? e = some i ∧ i.size = τ.size ∧ ∀ r β w xv, Rel r β x xv → MemSat r β Φ w → ∃ news, NewRows r i.size l.length (l.map τ.enc) news ∧ (∀ w', (Builtin.lenOf xv).run P w' = .ok l.length w') ∧
      (∀ w', w'.heap = w.heap → (Builtin.firstCells i.size l.length xv).run P w' = .ok news.toArray w') := by
  unfold srcK at h
  cases hz : szOk P e τ.size with
  | false => rw [hz] at h; exact h.elim
  | true =>
  rw [hz] at h
  obtain ⟨i, hi, his⟩ := szOk_info hz
  simp only [cond_true] at h
  split at h
  · rename_i s rows
    cases hs : Nat.beq s τ.size with
    | false => rw [hs] at h; exact h.elim
    | true =>
      rw [hs] at h
      obtain ⟨l, hk, hl⟩ := decRowsK_sound (fun _ _ h => decK_sound h) h
      refine ⟨l, hk, i, hi, his, fun r β w xv hx m => ?_⟩
      have hs' := beq_of hs
      subst hs'
      obtain ⟨news, h1, h2, h3⟩ := lits_news (P := P) hx m.vis
      rw [his]
      rw [← hl.1] at h1 h2 h3
      exact ⟨news, h1.ent hl rfl, h2, h3⟩
  · rename_i τ' l
    obtain ⟨rfl, h⟩ := castK_sound h
    refine ⟨l, h, i, hi, his, fun r β w xv hx m => ?_⟩
    cases hx with
    | rd hx => have := lits_news (P := P) hx m.vis; rw [his]; simpa using this
  · refine ⟨[], h, i, hi, his, fun r β w xv hx m => ?_⟩
    cases hx
    obtain ⟨news, h1, h2⟩ := news_empty (P := P) (r := r) (w := w) (sz := i.size) none 0
    exact ⟨news, h1, fun w' => rfl, h2⟩
  · rename_i l
    obtain ⟨rfl, h⟩ := castK_sound h
    refine ⟨l, h, i, hi, his, fun r β w xv hx m => ?_⟩
    rw [his]
    cases hx
    exact str_news l
  · rename_i id
    split at h
    · rename_i τ' l hg
      obtain ⟨rfl, h⟩ := castK_sound h
      refine ⟨l, h, i, hi, his, fun r β w xv hx m => ?_⟩
      rw [his]
      cases hx
      have hs := m.rowsR hg
      cases hs with
      | own hs => have := rowsAt_news (P := P) hs; simpa using this
    · exact h.elim
  · exact h.elim

theorem RowsAt.oneCell {r w x bt sz rows} (h : RowsAt r w x bt sz rows) : x.oneCell' = true := by
  obtain ⟨a, cap, rfl, _⟩ := h.slice; rfl

theorem zero_of_run {P : Program} {el : TypeId} {i : TypeInfo} {zv : Value} {w : World} (hi : P.info? el = some i) (h : (zeroValue el).run P w = .ok zv w) : i.zero = some zv := by
  cases hq : i.zero with
  | none => simp [zeroValue, typeInfo, hi, hq] at h
  | some z0 => simp [zeroValue, typeInfo, hi, hq] at h; rw [h]

theorem own_rel {r β id v} (h : Value.oneCell' v = true) : Rel r (setB β id v) (.own id) v := by
  have hs := setB_self β id v
  have q := Rel.own (r := r) (β := setB β id v) (id := id) (by rw [hs]; exact h)
  rwa [hs] at q

theorem appendK_sound {B : Base} {e N r β σ Φ a w n ts tx ty} {s x : SV} {vs vx : Value} {K : EK} (h : appendK B ts tx s x σ Φ n K) (st : Sat B e N r β σ Φ a w) (hs : Rel r β s vs) (hx : Rel r β x vx) :
    ∃ sv σ' Φ' n' v w' β', K sv σ' Φ' n' ∧ (Builtin.append_ #[ts, tx] ty #[vs, vx]).run B.P w = .ok v w' ∧ Rel r β' sv v ∧ Sat B e N r β' σ' Φ' a w' ∧ (∀ D, GdIn D σ → GdIn D σ') := by
  unfold appendK at h
  split at h
  · rename_i el dx hts htx
    cases hc : (!appendK.isSrcD dx || Nat.beq (sizeT B.P el) 0) with
    | true => rw [hc] at h; exact h.elim
    | false =>
    rw [hc] at h
    simp only [Bool.or_eq_false_iff, Bool.not_eq_false'] at hc
    obtain ⟨hc1, hc2⟩ := hc
    have hsrc : dx = .string ∨ ∃ e', dx = .slice e' := by
      cases dx <;> first | (cases hc1; done) | exact .inl rfl | exact .inr ⟨_, rfl⟩
    simp only [cond_false] at h
    obtain ⟨z, zv, h, hz1, _, hzrun, hzrel⟩ := zeroK_sound h
    cases hz2 : Nat.beq (len z) (sizeT B.P el) with
    | false => rw [hz2] at h; exact h.elim
    | true =>
    rw [hz2] at h
    simp only [cond_true] at h
    have hzl := beq_of hz2
    rw [len_eq] at hzl
    have common : ∀ {i}, B.P.info? el = some i → i.size ≠ 0 ∧ bytesT B.P el = i.bytes ∧ ∃ z0, i.zero = some z0 ∧ z0.cells.size = i.size := by
      intro i hi
      rw [sizeT_run hi] at hc2 hzl
      refine ⟨(by intro h0; rw [h0] at hc2; cases hc2), by simp [bytesT, hi], zv, zero_of_run hi (hzrun w), ?_⟩
      have := (hzrel r β).1
      simp at this
      omega
    split at h
    · -- to a nil slice
      cases hs
      split at h
      · rename_i τ hty
        obtain ⟨l, h, i, hi, his, hrows⟩ := srcK_sound h
        obtain ⟨hsz, hby, z0, hz0, hzc⟩ := common hi
        obtain ⟨news, nr, hlen, hnews⟩ := hrows r β w vx hx st.mem
        obtain ⟨hob, h⟩ := h
        have hob := hob.h
        rw [hby] at hob
        obtain ⟨v', w', hr, q1, q2, q3, q4, q5, q6, q7⟩ := run_append (P := B.P) (ty := ty) (v := .slice none 0 0) (rows := []) hts htx hsrc hi hz0 hzc hsz (ty_five hty) (.inl ⟨none, rfl, rfl⟩) nr hlen hnews (by simpa using hob.1) (by simpa using hob.2)
        have hg : Grows w w' := ⟨q2, q3, q4, q5, fun b hb => q6 b hb (by simp [blkOf])⟩
        have hblk : ∀ b, blkOf v' = some b → w.heap.size ≤ b := by
          intro b hb
          rcases q7 b hb with h | h
          · simp [blkOf] at h
          · exact h
        simp only [List.nil_append] at q1
        rw [his] at q1
        obtain ⟨sv, σ', Φ', n', hk, rfl, β', hr', hsat⟩ := newChK_sound h st hg (v := v') (fun b hb => hblk b (by rw [← blk_own_eq]; exact hb)) (.own q1) (own_rel q1.oneCell)
        exact ⟨sv, σ', Φ', n', v', w', β', hk, hr, hr', hsat, fun D hD => hD⟩
      · exact h.elim
    · rename_i id _
      split at h
      · rename_i τ l hg
        cases hokb : okB τ el with
        | false => rw [hokb] at h; exact h.elim
        | true =>
        rw [hokb] at h
        simp only [cond_true] at h
        obtain ⟨as, h, i, hi, his, hrows⟩ := srcK_sound h
        obtain ⟨hsz, hby, z0, hz0, hzc⟩ := common hi
        obtain ⟨news, nr, hlen, hnews⟩ := hrows r β w vx hx st.mem
        obtain ⟨hob, h⟩ := h
        have hob := hob.h
        rw [hby] at hob
        obtain ⟨σ', h, hσ⟩ := staleE_sound h
        obtain ⟨Φ1, h, hΦ1⟩ := staleP_sound h
        obtain ⟨c1, hc1'⟩ := (hΦ1 id).2 _ hg
        obtain ⟨Φ', hk, hΦ⟩ := setPK_sound h (hasId_of hc1')
        cases hs
        have hrs := st.mem.rows hg
        cases hrs with
        | own hrs =>
          rw [← his] at hrs
          obtain ⟨v', w', hr, q1, q2, q3, q4, q5, q6, q7⟩ := run_append (P := B.P) (ty := ty) hts htx hsrc hi hz0 hzc hsz (okB_five hokb) hrs nr hlen hnews (by simpa using hob.1) (by simpa using hob.2)
          rw [← List.map_append, his] at q1
          have hsat := sat_head (ch' := .own τ (l ++ as)) (v' := v') st hg hσ hΦ1 hΦ q2 q3 q4 q5
            (fun b hb hnb => q6 b hb (by rw [← blk_own_eq]; exact hnb)) (fun b hb => by rw [blk_own_eq] at hb ⊢; exact q7 b hb) (.own q1) rfl
          refine ⟨_, σ', Φ', n, v', w', _, hk, hr, ?_, hsat, fun D hD k s0 w0 sv0 hk0 => ?_⟩
          · exact own_rel q1.oneCell
          · obtain ⟨sv1, g1, _⟩ := hσ k _ _ hk0
            exact hD _ _ _ _ g1
      · exact h.elim
    · exact h.elim
  · exact h.elim

end Go.Vc

namespace Go.Vc
set_option autoImplicit false
set_option linter.unusedVariables false
set_option linter.unusedSimpArgs false

theorem makeSliceK_sound {B : Base} {e N r β σ Φ a w n t} {ln cp : SV} {vl vc : Value} {K : EK} (h : makeSliceK B t ln cp σ Φ n K) (st : Sat B e N r β σ Φ a w) (hl : Rel r β ln vl) (hc : Rel r β cp vc) :
    ∃ sv Φ' n' v w' β', K sv σ Φ' n' ∧ (Instr.makeSlice t vl vc).run B.P w = .ok v w' ∧ Rel r β' sv v ∧ Sat B e N r β' σ Φ' a w' := by
  unfold makeSliceK at h
  split at h
  · rename_i el k1 a0 k2 c0 ht
    cases hl; cases hc
    cases hz0 : Nat.beq (sizeT B.P el) 0 with
    | true => rw [hz0] at h; exact h.elim
    | false =>
    rw [hz0] at h
    simp only [cond_false] at h
    obtain ⟨z, zv, h, hz1, _, hzrun, hzrel⟩ := zeroK_sound h
    cases hz2 : Nat.beq (len z) (sizeT B.P el) with
    | false => rw [hz2] at h; exact h.elim
    | true =>
    rw [hz2] at h
    simp only [cond_true] at h
    split at h
    · rename_i τ hty
      cases hz3 : szOk B.P el τ.size with
      | false => rw [hz3] at h; exact h.elim
      | true =>
      rw [hz3] at h
      obtain ⟨i, hi, his⟩ := szOk_info hz3
      obtain ⟨d, h, hent⟩ := dec1K_sound h
      obtain ⟨hob, h⟩ := h
      have hob := hob.h
      have hzl := beq_of hz2
      rw [len_eq, sizeT_run hi] at hzl
      have hby : bytesT B.P el = i.bytes := by simp [bytesT, hi]
      rw [hby] at hob
      have hzc : zv.cells.size = i.size := by
        have := (hzrel r β).1
        simp at this
        omega
      have hrun := run_make (P := B.P) w t el i zv ht hi (zero_of_run hi (hzrun w)) k1 k2 a0 c0 hob.1 hob.2.1 (by have := hob.2.2.1; rw [Int.mul_comm]; omega) (by omega)
      have hrows : RowsAt r { w with heap := w.heap.push (.cells (madeCells zv.cells (c0.toNat * i.size)) el) } (.slice (some ⟨w.heap.size, 0, none⟩) a0.toNat c0.toNat) τ.isB τ.size ((List.replicate a0.toNat d).map τ.enc) := by
        by_cases hcz : c0.toNat = 0
        · have : a0.toNat = 0 := by omega
          left
          exact ⟨_, by rw [hcz, this], by rw [this]; rfl⟩
        · right
          have rowz : ∀ (k : Nat) (row : List SV), ((List.replicate a0.toNat d).map τ.enc)[k]? = some row → k < a0.toNat ∧ row = τ.enc d := by
            intro k row hk
            have hlt := lt_len hk
            rw [List.length_map, List.length_replicate] at hlt
            refine ⟨hlt, ?_⟩
            rw [List.getElem?_map, List.getElem?_replicate, if_pos hlt] at hk
            simp at hk
            rw [← hk]
          refine ⟨w.heap.size, 0, c0.toNat, _, el, (0, 0), by simp, hcz, heap_alloc_eq, ⟨fun h => ⟨ty_five hty h, rfl⟩, .inl rfl⟩, by simp; omega, by simp; omega, by rw [size_madeCells, his]; omega, ?_, ?_, ?_⟩
          · intro k row hk; rw [(rowz k row hk).2, enc_len]
          · intro k row j sv hk hj
            rw [(rowz k row hk).2] at hj
            exact enc_one τ d j sv hj
          · intro k row j sv v hk hj hv
            obtain ⟨hk1, hk2⟩ := rowz k row hk
            subst hk2
            have hjl := lt_len hj
            rw [enc_len, ← his] at hjl
            rw [Nat.zero_add, ← his, madeCells_get hzc k j (by omega) hjl] at hv
            have hzj : z[j]? = some z[j] := List.getElem?_eq_getElem (by omega)
            exact (hent.2 j _ sv hzj hj).1 _ _ _ ((hzrel r β0).2 j _ v hzj (by simpa using hv))
      obtain ⟨sv, σ', Φ', n', hk, rfl, β', hr', hsat⟩ := newChK_sound h st (Grows.alloc w (.cells (madeCells zv.cells (c0.toNat * i.size)) el)) (v := .slice (some ⟨w.heap.size, 0, none⟩) a0.toNat c0.toNat)
        (fun b hb => by
          simp only [Chunk.blk] at hb
          cases hq : Nat.beq c0.toNat 0 with
          | true => rw [hq] at hb; cases hb
          | false => rw [hq] at hb; simp at hb; omega) (.own hrows) (own_rel rfl)
      exact ⟨sv, Φ', n', _, _, β', hk, hrun, hr', hsat⟩
    · exact h.elim
  · exact h.elim

theorem buildSliceK_sound {B : Base} {e N r β σ Φ a w n t ln parts} {K : EK} (h : buildSliceK B σ t ln parts Φ n K) (st : Sat B e N r β σ Φ a w) :
    ∃ sv Φ' n' v w' β', K sv σ Φ' n' ∧ (Instr.buildSlice t ln (parts.map fun (i, x) => (i, a.eval x)).toArray).run B.P w = .ok v w' ∧ Rel r β' sv v ∧ Sat B e N r β' σ Φ' a w' := by
  unfold buildSliceK at h
  split at h
  · rename_i el ht
    split at h
    · rename_i τ hty
      cases hz : szOk B.P el τ.size with
      | false => rw [hz] at h; exact h.elim
      | true =>
      rw [hz] at h
      have hts := (szOk_spec hz).1
      obtain ⟨rows, h, h1, h2, h3, h4, h5, h6⟩ := rowsOfK_sound h
      obtain ⟨l, h, hl⟩ := decRowsK_sound (fun _ _ h => decK_sound h) h
      obtain ⟨us, hus, hrun, hrel⟩ := h6 _ r β a _ (fun _ _ => hasT _) (Sm.plain st.agree)
      have hlen : (l.map τ.enc).length = ln := by rw [List.length_map, hl.1, h1]
      have hrows : RowsAt r { w with heap := w.heap.push (.cells us el) } (.slice (some ⟨w.heap.size, 0, none⟩) ln ln) τ.isB τ.size (l.map τ.enc) := by
        by_cases hz : ln = 0
        · left
          exact ⟨_, by rw [hz], List.length_eq_zero_iff.1 (by rw [hlen, hz])⟩
        · right
          have key : ∀ (i : Nat) (row : List SV), (l.map τ.enc)[i]? = some row → ∃ row0 a, rows[i]? = some row0 ∧ Entl row0 row ∧ row = τ.enc a := by
            intro i row hi
            rw [List.getElem?_map] at hi
            cases hq : l[i]? with
            | none => rw [hq] at hi; cases hi
            | some a =>
              rw [hq] at hi
              simp at hi
              subst hi
              have hlt : i < rows.length := by have := lt_len hq; rw [← hl.1]; exact this
              exact ⟨rows[i], a, List.getElem?_eq_getElem hlt, hl.2 i _ a (List.getElem?_eq_getElem hlt) hq, rfl⟩
          have hle : ln ≤ ln * sizeT B.P el := Nat.le_mul_of_pos_right ln (by omega)
          refine ⟨w.heap.size, 0, ln, us, el, (0, 0), by rw [hlen], hz, heap_alloc_eq, ⟨fun h => ⟨ty_five hty h, rfl⟩, .inl rfl⟩, by omega, by rw [hlen]; exact Nat.le_refl _, by rw [← hts, hus]; omega, ?_, ?_, ?_⟩
          · intro k row hk; obtain ⟨_, a', _, _, rfl⟩ := key k row hk; exact enc_len _ _
          · intro k row j sv hk hj; obtain ⟨_, a', _, _, rfl⟩ := key k row hk; exact enc_one _ _ _ _ hj
          · intro k row j sv v hk hj hv
            obtain ⟨row0, a', g1, g2, rfl⟩ := key k row hk
            have hjl : j < row0.length := by have := lt_len hj; rw [← g2.1]; exact this
            exact (g2.2 j _ sv (List.getElem?_eq_getElem hjl) hj).1 _ _ _ (hrel k row0 j _ v g1 (List.getElem?_eq_getElem hjl) (by rw [hts]; rw [Nat.zero_add] at hv; exact hv))
      obtain ⟨sv, σ', Φ', n', hk, rfl, β', hr', hsat⟩ := newChK_sound h st (Grows.alloc w (.cells us el)) (v := .slice (some ⟨w.heap.size, 0, none⟩) ln ln)
        (fun b hb => by
          simp only [Chunk.blk] at hb
          cases hq : Nat.beq ln 0 with
          | true => rw [hq] at hb; cases hb
          | false => rw [hq] at hb; simp at hb; omega) (.own hrows) (own_rel rfl)
      exact ⟨sv, Φ', n', _, _, β', hk, hrun t w ht, hr', hsat⟩
    · exact h.elim
  · exact h.elim

theorem rangeK_sound {B : Base} {e N r β σ Φ a w n t} {x : SV} {vx : Value} {K : EK} (h : rangeK B.P t x σ Φ n K) (st : Sat B e N r β σ Φ a w) (hx : Rel r β x vx) :
    ∃ sv Φ' n' v w' β', K sv σ Φ' n' ∧ (Instr.range t vx).run B.P w = .ok v w' ∧ Rel r β' sv v ∧ Sat B e N r β' σ Φ' a w' := by
  unfold rangeK at h
  split at h
  · rename_i l hu
    cases hx
    rename_i hlen
    obtain ⟨sv, σ', Φ', n', hk, rfl, β', hr', hsat⟩ := newChK_sound h st (Grows.alloc w (.stringIter ⟨l.toArray⟩ 0)) (v := .pointer (some ⟨w.heap.size, 0, none⟩))
      (fun b hb => by simp [Chunk.blk] at hb; omega) (.iter rfl heap_alloc_eq hlen) (.loc (setB_self _ _ _))
    refine ⟨sv, Φ', n', _, _, β', hk, ?_, hr', hsat⟩
    simp only [Instr.range, Sem.run_bind, run_underlying hu, Result.andThen_ok, Sem.run_pure, run_newObj]
  · exact h.elim

theorem nextK_sound {B : Base} {e N r β σ Φ a w n is ty} {x : SV} {vx : Value} {K : EK} (h : nextK x is σ Φ n K) (st : Sat B e N r β σ Φ a w) (hx : Rel r β x vx) :
    ∃ sv Φ' n' v w', K sv σ Φ' n' ∧ (Instr.next vx is ty).run B.P w = .ok v w' ∧ Rel r β sv v ∧ Sat B e N r β σ Φ' a w' := by
  unfold nextK at h
  split at h
  · rename_i id
    split at h
    · rename_i s pos hg
      obtain ⟨h1, h2⟩ := h
      cases hx with
      | loc hβ =>
        rename_i b
        have hs := st.mem.rows hg
        cases hs with
        | iter hxb hw hlen =>
          rename_i b'
          rw [hβ] at hxb
          obtain rfl : b = b' := by simpa using hxb
          have hz : (ByteArray.mk s.toArray).size = s.length := by simp [ByteArray.size]
          by_cases hp : pos < s.length
          · obtain ⟨Φ', hk, hΦ⟩ := setPK_sound (h1 hp) (hasId_of hg)
            have hlt := lt_of_heap hw
            refine ⟨_, Φ', n, _, { w with heap := w.heap.setIfInBounds b (.stringIter ⟨s.toArray⟩ (pos + (decL s pos).2)) }, hk, ?_, .tup (cs := [.bool true, .int .i64 pos, .int .i32 (decL s pos).1]) rfl ?_, ?_⟩
            · have hp' : pos < (ByteArray.mk s.toArray).size := by rw [hz]; exact hp
              simp only [Instr.next, Sem.run_bind, getObj, Sem.run, hw, Result.andThen_ok]
              simp only [hp', if_true, setObj, Sem.run_bind, Sem.run, hw, Result.andThen_ok, Sem.run_pure, goInt]
              rfl
            · intro i sv v q1 q2
              match i with
              | 0 => simp at q1 q2; subst q1; subst q2; exact .bool
              | 1 => simp at q1 q2; subst q1; subst q2; exact .int
              | 2 => simp at q1 q2; subst q1; subst q2; exact .int
              | i + 3 => simp at q1
            · refine sat_upd st hg hΦ ⟨rfl, rfl, rfl, by simp, fun b' hb' => ?_⟩ (by rw [hβ]; rfl) (by rw [hβ]; rfl) (.iter hβ (by simp [hlt]) hlen) rfl
              show (w.heap.setIfInBounds b _)[b']? = _
              rw [Array.getElem?_setIfInBounds_ne (fun h => hb' h.symm)]
          · refine ⟨_, Φ, n, _, w, h2 hp, ?_, .tup (cs := [.bool false]) rfl ?_, st⟩
            · have hp' : ¬ pos < (ByteArray.mk s.toArray).size := by rw [hz]; exact hp
              simp only [Instr.next, Sem.run_bind, getObj, Sem.run, hw, Result.andThen_ok]
              simp only [hp', if_false]
              rfl
            · intro i sv v q1 q2
              cases i with
              | zero => simp at q1 q2; subst q1; subst q2; exact .bool
              | succ i => simp at q1
    · exact h.elim
  · exact h.elim

end Go.Vc

namespace Go.Vc
set_option autoImplicit false
set_option linter.unusedVariables false
set_option linter.unusedSimpArgs false

/-! What is owned, given away for good. -/
def bq (id : Nat) : Nat → Bool := fun i => Nat.beq i id
theorem bq_self (id : Nat) : bq id id = true := Nat.beq_refl id
theorem bq_eq {id i : Nat} (h : bq id i = true) : i = id := beq_of h

/-- one value stands for the other, where id is given away -/
def FzR (id : Nat) (τ : Ty) (l : List τ.T) (x y : SV) : Prop := ∀ r β Φ w v, MemSat r β Φ w → Phi.get Φ id = some (.own τ l) → Rel r β x v → Rel (frz (bq id) r β Φ w) β y v
theorem fz0_sound {id τ l x} {K : SV → Prop} (h : fz0 id τ l x K) : ∃ y, K y ∧ FzR id τ l x y := by
  by_cases hx : ∃ i, x = .own i
  · obtain ⟨i, rfl⟩ := hx
    simp only [fz0] at h
    cases hb : Nat.beq i id with
    | true =>
      rw [hb] at h
      obtain rfl := beq_of hb
      refine ⟨_, h, fun r β Φ w v m hg hr => ?_⟩
      cases hr
      exact own_frz m (bq_self _) hg β
    | false =>
      rw [hb] at h
      exact ⟨_, h, fun r β Φ w v m hg hr => hr.mono (frz_le m)⟩
  · have h' : bif x.okIds (fun i => !Nat.beq i id) then K x else K .und := by cases x <;> first | exact h | exact (hx ⟨_, rfl⟩).elim
    cases ho : x.okIds (fun i => !Nat.beq i id) with
    | true => rw [ho] at h'; exact ⟨x, h', fun r β Φ w v m hg hr => hr.mono (frz_le m)⟩
    | false => rw [ho] at h'; exact ⟨_, h', fun r β Φ w v m hg hr => .und⟩
theorem fz1_sound {id τ l x} {K : SV → Prop} (h : fz1 id τ l x K) : ∃ y, K y ∧ FzR id τ l x y := by
  by_cases hx : ∃ xs, x = .agg xs
  · obtain ⟨xs, rfl⟩ := hx
    obtain ⟨ys, hk, hl, hh⟩ := lift_list (D := fz0 id τ l) (DL := fz0L id τ l) (fun _ h => h) (fun _ _ _ h => h) (fun _ _ h => fz0_sound h) xs _ h
    refine ⟨_, hk, fun r β Φ w v m hg hr => ?_⟩
    obtain ⟨cs, rfl, hcs⟩ := hr.aggL_inv
    exact .aggL (relL_of hl hh (fun x y v hR hx => hR r β Φ w v m hg hx) hcs)
  · have h' : fz0 id τ l x K := by cases x <;> first | exact h | exact (hx ⟨_, rfl⟩).elim
    exact fz0_sound h'
theorem fz1L_sound {id τ l xs} {K : List SV → Prop} (h : fz1L id τ l xs K) : ∃ ys, K ys ∧ ys.length = xs.length ∧ ∀ (i : Nat) y, ys[i]? = some y → ∃ x, xs[i]? = some x ∧ FzR id τ l x y :=
  lift_list (D := fz1 id τ l) (DL := fz1L id τ l) (fun _ h => h) (fun _ _ _ h => h) (fun _ _ h => fz1_sound h) xs K h
theorem fz2_sound {id τ l x} {K : SV → Prop} (h : fz2 id τ l x K) : ∃ y, K y ∧ FzR id τ l x y := by
  by_cases hx : ∃ xs, x = .tup xs
  · obtain ⟨xs, rfl⟩ := hx
    obtain ⟨ys, hk, hl, hh⟩ := fz1L_sound h
    refine ⟨_, hk, fun r β Φ w v m hg hr => ?_⟩
    obtain ⟨cs, rfl, hcs⟩ := hr.tupL_inv
    exact .tupL (relL_of hl hh (fun x y v hR hx => hR r β Φ w v m hg hx) hcs)
  · have h' : fz1 id τ l x K := by cases x <;> first | exact h | exact (hx ⟨_, rfl⟩).elim
    exact fz1_sound h'
theorem fzE_sound {id τ l} {σ : Env} : ∀ {K : Env → Prop}, fzE id τ l σ K → ∃ σ', K σ' ∧ ∀ k g sv', Env.get σ' k = some (g, sv') → ∃ sv, Env.get σ k = some (g, sv) ∧ FzR id τ l sv sv' := by
  induction σ with
  | nil => intro K h; exact ⟨[], h, fun k g sv' hk => by simp [Env.get] at hk⟩
  | cons x r ih =>
    obtain ⟨k0, g0, sv0⟩ := x
    intro K h
    obtain ⟨y, h, hy⟩ := fz2_sound h
    obtain ⟨σ', hk, hh⟩ := ih h
    refine ⟨_, hk, fun k g sv' hi => ?_⟩
    rw [get_cons] at hi ⊢
    cases hb : Nat.beq k0 k with
    | true => rw [hb] at hi; simp at hi; obtain ⟨rfl, rfl⟩ := hi; exact ⟨sv0, rfl, hy⟩
    | false => rw [hb] at hi; exact hh k g sv' hi
inductive FzC (id : Nat) (τ : Ty) (l : List τ.T) : Chunk → Chunk → Prop
  | same {c} (h : ∀ T cs, c ≠ .bx T cs) : FzC id τ l c c
  | box {T cs cs'} (hl : cs'.length = cs.length) (h : ∀ (i : Nat) (sv' : SV), cs'[i]? = some sv' → ∃ sv, cs[i]? = some sv ∧ FzR id τ l sv sv') : FzC id τ l (.bx T cs) (.bx T cs')
theorem FzC.kind {id τ l c c'} (h : FzC id τ l c c') : c'.kind = c.kind := by cases h <;> rfl
theorem FzC.blk {id τ l c c'} (h : FzC id τ l c c') (x : Value) : c'.blk x = c.blk x := by
  cases h with
  | same => rfl
  | box => exact blk_box' _ _ _ _
theorem fzC_sound {id τ l c} {K : Chunk → Prop} (h : fzC id τ l c K) : ∃ c', K c' ∧ FzC id τ l c c' := by
  cases c with
  | bx _ cs => obtain ⟨ys, hk, hl, hh⟩ := fz1L_sound h; exact ⟨_, hk, .box hl hh⟩
  | own => exact ⟨_, h, .same (by intro _ cs h; cases h)⟩
  | iter => exact ⟨_, h, .same (by intro _ cs h; cases h)⟩
  | gh => exact ⟨_, h, .same (by intro _ cs h; cases h)⟩
  | mp => exact ⟨_, h, .same (by intro _ cs h; cases h)⟩
  | ro => exact ⟨_, h, .same (by intro _ cs h; cases h)⟩
theorem fzP_sound {id τ l} {Φ : Phi} : ∀ {K : Phi → Prop}, fzP id τ l Φ K → ∃ Φ', K Φ' ∧ ∀ j, (∀ c', Phi.get Φ' j = some c' → j ≠ id ∧ ∃ c, Phi.get Φ j = some c ∧ FzC id τ l c c') ∧ (j ≠ id → ∀ c, Phi.get Φ j = some c → ∃ c', Phi.get Φ' j = some c') := by
  induction Φ with
  | nil => intro K h; exact ⟨[], h, fun j => ⟨fun c' h => by simp [Phi.get] at h, fun _ c h => by simp [Phi.get] at h⟩⟩
  | cons x r ih =>
    obtain ⟨k, c⟩ := x
    intro K h
    unfold fzP at h
    cases hb : Nat.beq k id with
    | true =>
      rw [hb] at h
      obtain rfl := beq_of hb
      obtain ⟨Φ', hk, hh⟩ := ih h
      refine ⟨Φ', hk, fun j => ⟨fun c' hj => ?_, fun hne c1 hj => ?_⟩⟩
      · obtain ⟨h1, c0, h2, h3⟩ := (hh j).1 c' hj
        exact ⟨h1, c0, by rw [phi_cons, nbeq_of (fun he => h1 he.symm)]; exact h2, h3⟩
      · rw [phi_cons, nbeq_of (fun he => hne he.symm)] at hj
        exact (hh j).2 hne c1 hj
    | false =>
      rw [hb] at h
      simp only [cond_false] at h
      obtain ⟨c', h, hc⟩ := fzC_sound h
      obtain ⟨Φ', hk, hh⟩ := ih h
      refine ⟨_, hk, fun j => ?_⟩
      rw [phi_cons, phi_cons]
      cases hq : Nat.beq k j with
      | true =>
        obtain rfl := beq_of hq
        have hne : k ≠ id := by rintro rfl; rw [Nat.beq_refl] at hb; cases hb
        exact ⟨fun c1 h => by simp at h; subst h; exact ⟨hne, c, rfl, hc⟩, fun _ c1 h => ⟨c', rfl⟩⟩
      | false => exact hh j

theorem mem_fz {id τ l r β Φ w Φ'} (m : MemSat r β Φ w) (hg : Phi.get Φ id = some (.own τ l))
    (hΦ : ∀ j, (∀ c', Phi.get Φ' j = some c' → j ≠ id ∧ ∃ c, Phi.get Φ j = some c ∧ FzC id τ l c c') ∧ (j ≠ id → ∀ c, Phi.get Φ j = some c → ∃ c', Phi.get Φ' j = some c')) :
    MemSat (frz (bq id) r β Φ w) β Φ' w ∧ Hid r β Φ w (frz (bq id) r β Φ w) β Φ' w := by
  have notin : ∀ b j c0, j ≠ id → Phi.get Φ j = some c0 → c0.blk (β j) = some b → frz (bq id) r β Φ w b = none := by
    intro b j c0 hne h1 h2
    rw [frz_not, m.sep _ _ _ h1 h2]
    intro i c q1 q2 _ q4
    rw [bq_eq q1] at q2 q4
    exact hne (m.nod _ _ _ _ _ h1 q2 h2 q4)
  refine ⟨⟨frz_vis m, fun j c' hj => ?_, fun j c' b hj hb => ?_, fun j j' c c' b h1 h1' h2 h2' => ?_⟩, rfl, rfl, rfl, Nat.le_refl _, fun b hb h1 h2 => ⟨rfl, ?_, fun j c' hj hc => ?_⟩, fun j c hj hk => ⟨rfl, ?_⟩⟩
  · obtain ⟨hne, c, h1, h2⟩ := (hΦ j).1 c' hj
    have hs := m.chs _ _ h1
    cases h2 with
    | same hnb => exact hs.keep (frz_le m) (fun _ _ => rfl) (fun T cells he => (hnb T cells he).elim)
    | box hl hh =>
      cases hs with
      | box hx hw hlc hc hT =>
        refine .box hx hw (by rw [hlc, hl]) (fun i sv v p1 p2 => ?_) hT
        obtain ⟨sv0, q1, q2⟩ := hh i sv p1
        exact q2 r β Φ w v m hg (hc i sv0 v q1 p2)
  · obtain ⟨hne, c, h1, h2⟩ := (hΦ j).1 c' hj
    rw [h2.blk] at hb
    exact notin b j c hne h1 hb
  · obtain ⟨hne, c0, p1, p2⟩ := (hΦ j).1 c h1
    obtain ⟨hne', c0', p1', p2'⟩ := (hΦ j').1 c' h1'
    rw [p2.blk] at h2; rw [p2'.blk] at h2'
    exact m.nod _ _ _ _ _ p1 p1' h2 h2'
  · rw [frz_not (fun i c _ q2 _ => h2 i c q2)]; exact h1
  · obtain ⟨hne, c, p1, p2⟩ := (hΦ j).1 c' hj
    rw [p2.blk] at hc
    exact h2 j c p1 hc
  · have hne : j ≠ id := by
      rintro rfl
      rw [hg] at hj; cases hj; exact hk rfl
    obtain ⟨c', h1⟩ := (hΦ j).2 hne c hj
    obtain ⟨_, c0, p1, p2⟩ := (hΦ j).1 c' h1
    rw [hj] at p1; cases p1
    exact ⟨c', h1, p2.kind⟩

theorem frzK_sound {B : Base} {e N a w} : ∀ {ids : List Nat} {xs σ Φ} {K : List SV → Env → Phi → Prop}, frzK ids xs σ Φ K → ∀ {r β vs}, Sat B e N r β σ Φ a w → RelL r β xs vs →
    ∃ xs' σ' Φ' r', K xs' σ' Φ' ∧ Sat B e N r' β σ' Φ' a w ∧ RelL r' β xs' vs ∧ (∀ D, GdIn D σ → GdIn D σ') := by
  intro ids
  induction ids with
  | nil => intro xs σ Φ K h r β vs s hv; exact ⟨xs, σ, Φ, r, h, s, hv, fun D hD => hD⟩
  | cons id ids ih =>
    intro xs σ Φ K h r β vs s hv
    simp only [frzK] at h
    split at h
    · rename_i τ l hg
      obtain ⟨ys, h, hl, hh⟩ := fz1L_sound h
      obtain ⟨σ1, h, hσ⟩ := fzE_sound h
      obtain ⟨Φ1, h, hΦ⟩ := fzP_sound h
      obtain ⟨m1, hid⟩ := mem_fz s.mem hg hΦ
      have s1 : Sat B e N (frz (bq id) r β Φ w) β σ1 Φ1 a w := s.step (s.agree.of fun k g sv' hk => by
        obtain ⟨sv, q1, q2⟩ := hσ k g sv' hk
        exact ⟨sv, q1, fun v hr => q2 r β Φ w v s.mem hg hr⟩) m1 (frz_le s.mem) hid
      obtain ⟨xs', σ', Φ', r', hk, s', hv', hD⟩ := ih h s1 (relL_of hl hh (fun x y v hR hx => hR r β Φ w v s.mem hg hx) hv)
      refine ⟨xs', σ', Φ', r', hk, s', hv', fun D h0 => hD D fun k s0 w0 sv0 hk0 => ?_⟩
      obtain ⟨sv, q1, _⟩ := hσ k _ _ hk0
      exact h0 _ _ _ _ q1
    · exact ih h s hv
    · exact h.elim
end Go.Vc

namespace Go.Vc
set_option autoImplicit false
set_option linter.unusedVariables false
set_option linter.unusedSimpArgs false

/-! Tables of names. -/
abbrev NN := List (Nat × Nat)
def lookF : NN → Nat → Option Nat
  | [], _ => none
  | (a, j) :: r, i => bif Nat.beq a i then some j else lookF r i
def lookB : NN → Nat → Option Nat
  | [], _ => none
  | (a, j) :: r, i => bif Nat.beq j i then some a else lookB r i
theorem lookK_sound {m : NN} {i : Nat} {K : Nat → Prop} (h : lookK m i K) : ∃ j, lookF m i = some j ∧ K j := by
  induction m with
  | nil => exact h.elim
  | cons x r ih =>
    obtain ⟨a, j⟩ := x
    simp only [lookK] at h
    simp only [lookF]
    cases hb : Nat.beq a i with
    | true => rw [hb] at h; exact ⟨j, rfl, h⟩
    | false => rw [hb] at h; exact ih h
theorem lookF_mem {m : NN} {i j : Nat} (h : lookF m i = some j) : (i, j) ∈ m := by
  induction m with
  | nil => cases h
  | cons x r ih =>
    obtain ⟨a, c⟩ := x
    simp only [lookF] at h
    cases hb : Nat.beq a i with
    | true => rw [hb] at h; simp at h; obtain rfl := beq_of hb; subst h; simp
    | false => rw [hb] at h; exact List.mem_cons_of_mem _ (ih h)
theorem lookB_mem {m : NN} {i j : Nat} (h : lookB m j = some i) : (i, j) ∈ m := by
  induction m with
  | nil => cases h
  | cons x r ih =>
    obtain ⟨a, c⟩ := x
    simp only [lookB] at h
    cases hb : Nat.beq c j with
    | true => rw [hb] at h; simp at h; obtain rfl := beq_of hb; subst h; simp
    | false => rw [hb] at h; exact List.mem_cons_of_mem _ (ih h)
theorem hasFst_iff {m : NN} {i : Nat} : hasFst m i = true ↔ ∃ j, (i, j) ∈ m := by
  induction m with
  | nil => simp [hasFst]
  | cons x r ih =>
    obtain ⟨a, c⟩ := x
    simp only [hasFst, Bool.or_eq_true, ih]
    constructor
    · rintro (h | ⟨j, h⟩)
      · obtain rfl := beq_of h; exact ⟨c, by simp⟩
      · exact ⟨j, by simp [h]⟩
    · rintro ⟨j, h⟩
      simp only [List.mem_cons, Prod.mk.injEq] at h
      rcases h with ⟨rfl, rfl⟩ | h
      · exact .inl (Nat.beq_refl _)
      · exact .inr ⟨j, h⟩
theorem hasSnd_iff {m : NN} {j : Nat} : hasSnd m j = true ↔ ∃ i, (i, j) ∈ m := by
  induction m with
  | nil => simp [hasSnd]
  | cons x r ih =>
    obtain ⟨a, c⟩ := x
    simp only [hasSnd, Bool.or_eq_true, ih]
    constructor
    · rintro (h | ⟨j, h⟩)
      · obtain rfl := beq_of h; exact ⟨a, by simp⟩
      · exact ⟨j, by simp [h]⟩
    · rintro ⟨i, h⟩
      simp only [List.mem_cons, Prod.mk.injEq] at h
      rcases h with ⟨rfl, rfl⟩ | h
      · exact .inl (Nat.beq_refl _)
      · exact .inr ⟨i, h⟩
theorem lookF_of {m : NN} (hn : nodupFst m = true) {i j : Nat} (h : (i, j) ∈ m) : lookF m i = some j := by
  induction m with
  | nil => cases h
  | cons x r ih =>
    obtain ⟨a, c⟩ := x
    simp only [nodupFst, Bool.and_eq_true, Bool.not_eq_true'] at hn
    simp only [List.mem_cons, Prod.mk.injEq] at h
    simp only [lookF]
    rcases h with ⟨rfl, rfl⟩ | h
    · rw [Nat.beq_refl]; rfl
    · have : a ≠ i := by
        rintro rfl
        have := hasFst_iff.2 ⟨j, h⟩
        rw [hn.1] at this; cases this
      rw [nbeq_of this]; exact ih hn.2 h
theorem lookB_of {m : NN} (hn : nodupSnd m = true) {i j : Nat} (h : (i, j) ∈ m) : lookB m j = some i := by
  induction m with
  | nil => cases h
  | cons x r ih =>
    obtain ⟨a, c⟩ := x
    simp only [nodupSnd, Bool.and_eq_true, Bool.not_eq_true'] at hn
    simp only [List.mem_cons, Prod.mk.injEq] at h
    simp only [lookB]
    rcases h with ⟨rfl, rfl⟩ | h
    · rw [Nat.beq_refl]; rfl
    · have : c ≠ j := by
        rintro rfl
        have := hasSnd_iff.2 ⟨i, h⟩
        rw [hn.1] at this; cases this
      rw [nbeq_of this]; exact ih hn.2 h
theorem nodupFst_app {P m : NN} (h : nodupFst (P ++ m) = true) : nodupFst m = true := by
  induction P with
  | nil => exact h
  | cons x r ih => obtain ⟨a, c⟩ := x; simp only [List.cons_append, nodupFst, Bool.and_eq_true] at h; exact ih h.2
theorem nodupSnd_app {P m : NN} (h : nodupSnd (P ++ m) = true) : nodupSnd m = true := by
  induction P with
  | nil => exact h
  | cons x r ih => obtain ⟨a, c⟩ := x; simp only [List.cons_append, nodupSnd, Bool.and_eq_true] at h; exact ih h.2
theorem swapK_sound {m : NN} : ∀ {K : NN → Prop}, swapK m K → ∃ M, K M ∧ ∀ i j, (j, i) ∈ M ↔ (i, j) ∈ m := by
  induction m with
  | nil => intro K h; exact ⟨[], h, fun i j => by simp⟩
  | cons x r ih =>
    obtain ⟨a, c⟩ := x
    intro K h
    obtain ⟨M, hk, hM⟩ := ih h
    refine ⟨_, hk, fun i j => ?_⟩
    simp only [List.mem_cons, Prod.mk.injEq, hM]
    constructor
    · rintro (⟨rfl, rfl⟩ | h)
      · exact .inl ⟨rfl, rfl⟩
      · exact .inr h
    · rintro (⟨rfl, rfl⟩ | h)
      · exact .inl ⟨rfl, rfl⟩
      · exact .inr h

/-! The same values, under other names. -/
def Rn (m : NN) (β β' : Bind) : Prop := ∀ i j, lookF m i = some j → β' j = β i
def RnR (m : NN) (x y : SV) : Prop := ∀ r β β' v, Rn m β β' → Rel r β x v → Rel r β' y v
theorem rn0_sound {m x} {K : SV → Prop} (h : rn0 m x K) : ∃ y, K y ∧ RnR m x y := by
  unfold rn0 at h
  split at h
  · obtain ⟨j, hj, h⟩ := lookK_sound h
    refine ⟨_, h, fun r β β' v hm hr => ?_⟩
    cases hr with
    | loc hb => exact .loc (by rw [hm _ _ hj]; exact hb)
  · obtain ⟨j, hj, h⟩ := lookK_sound h
    refine ⟨_, h, fun r β β' v hm hr => ?_⟩
    cases hr with
    | own hb => rw [← hm _ _ hj] at hb ⊢; exact .own hb
  · obtain ⟨j, hj, h⟩ := lookK_sound h
    refine ⟨_, h, fun r β β' v hm hr => ?_⟩
    cases hr with
    | oel hb => exact .oel (by rw [hm _ _ hj]; exact hb)
  · obtain ⟨j, hj, h⟩ := lookK_sound h
    refine ⟨_, h, fun r β β' v hm hr => ?_⟩
    cases hr with
    | mref hb => exact .mref (by rw [hm _ _ hj]; exact hb)
  · cases ho : SV.okIds (fun _ => false) x with
    | false => rw [ho] at h; exact h.elim
    | true => rw [ho] at h; exact ⟨x, h, fun r β β' v _ hr => hr.pure ho β'⟩
theorem rn0L_sound {m xs} {K : List SV → Prop} (h : rn0L m xs K) : ∃ ys, K ys ∧ ys.length = xs.length ∧ ∀ (i : Nat) y, ys[i]? = some y → ∃ x, xs[i]? = some x ∧ RnR m x y :=
  lift_list (D := rn0 m) (DL := rn0L m) (fun _ h => h) (fun _ _ _ h => h) (fun _ _ h => rn0_sound h) xs K h
theorem rn1_sound {m x} {K : SV → Prop} (h : rn1 m x K) : ∃ y, K y ∧ RnR m x y := by
  unfold rn1 at h
  split at h
  · obtain ⟨ys, hk, hl, hh⟩ := rn0L_sound h
    refine ⟨_, hk, fun r β β' v hm hr => ?_⟩
    obtain ⟨cs, rfl, hcs⟩ := hr.aggL_inv
    exact .aggL (relL_of hl hh (fun x y v hR hx => hR r β β' v hm hx) hcs)
  · obtain ⟨ys, hk, hl, hh⟩ := rn0L_sound h
    refine ⟨_, hk, fun r β β' v hm hr => ?_⟩
    obtain ⟨cs, rfl, hcs⟩ := hr.fnL_inv
    exact .fnL (relL_of hl hh (fun x y v hR hx => hR r β β' v hm hx) hcs)
  · exact rn0_sound h
theorem rn1L_sound {m xs} {K : List SV → Prop} (h : rn1L m xs K) : ∃ ys, K ys ∧ ys.length = xs.length ∧ ∀ (i : Nat) y, ys[i]? = some y → ∃ x, xs[i]? = some x ∧ RnR m x y :=
  lift_list (D := rn1 m) (DL := rn1L m) (fun _ h => h) (fun _ _ _ h => h) (fun _ _ h => rn1_sound h) xs K h
theorem rn2_sound {m x} {K : SV → Prop} (h : rn2 m x K) : ∃ y, K y ∧ RnR m x y := by
  unfold rn2 at h
  split at h
  · obtain ⟨ys, hk, hl, hh⟩ := rn1L_sound h
    refine ⟨_, hk, fun r β β' v hm hr => ?_⟩
    obtain ⟨cs, rfl, hcs⟩ := hr.tupL_inv
    exact .tupL (relL_of hl hh (fun x y v hR hx => hR r β β' v hm hx) hcs)
  · exact rn1_sound h
inductive RnC (m : NN) : Chunk → Chunk → Prop
  | same {c} (h : ∀ T cs, c ≠ .bx T cs) : RnC m c c
  | box {T cs cs'} (hl : cs'.length = cs.length) (h : ∀ (i : Nat) (y : SV), cs'[i]? = some y → ∃ x, cs[i]? = some x ∧ RnR m x y) : RnC m (.bx T cs) (.bx T cs')
theorem RnC.kind {m c c'} (h : RnC m c c') : c'.kind = c.kind := by cases h <;> rfl
theorem RnC.blk {m c c'} (h : RnC m c c') (x : Value) : c'.blk x = c.blk x := by
  cases h with
  | same => rfl
  | box => exact blk_box' _ _ _ _
theorem rnC_sound {m c} {K : Chunk → Prop} (h : rnC m c K) : ∃ c', K c' ∧ RnC m c c' := by
  cases c with
  | bx _ cs => obtain ⟨ys, hk, hl, hh⟩ := rn1L_sound h; exact ⟨_, hk, .box hl hh⟩
  | own => exact ⟨_, h, .same (by intro _ cs h; cases h)⟩
  | iter => exact ⟨_, h, .same (by intro _ cs h; cases h)⟩
  | gh => exact ⟨_, h, .same (by intro _ cs h; cases h)⟩
  | mp => exact ⟨_, h, .same (by intro _ cs h; cases h)⟩
  | ro => exact ⟨_, h, .same (by intro _ cs h; cases h)⟩
/-- a chunk, under another name, in another memory that has its block -/
theorem RnC.sat {m c c'} (h : RnC m c c') {r r' : Mem} (hle : r.le r') {β β' w w' x} (hm : Rn m β β') (hs : c.Sat r β w x) (hb : ∀ b, c.blk x = some b → w'.heap[b]? = w.heap[b]?) : c'.Sat r' β' w' x := by
  cases h with
  | same hnb => exact hs.keep hle hb (fun T cells he => (hnb T cells he).elim)
  | box hl hh =>
    cases hs with
    | box hx hw hlc hc hT =>
      refine .box hx (by rw [hb _ (by rw [hx]; rfl)]; exact hw) (by rw [hlc, hl]) (fun i sv v p1 p2 => ?_) hT
      obtain ⟨sv0, q1, q2⟩ := hh i sv p1
      exact q2 _ _ _ _ hm ((hc i sv0 v q1 p2).mono hle)

theorem subPK_sound {Φ : Phi} {m0 : NN} : ∀ {m : NN} {K : Phi → Prop}, subPK Φ m0 m K → ∃ Φc, K Φc ∧
    (∀ j ch, Phi.get Φc j = some ch → ∃ i ch0, (i, j) ∈ m ∧ Phi.get Φ i = some ch0 ∧ RnC m0 ch0 ch) ∧ (∀ i j, (i, j) ∈ m → ∃ ch, Phi.get Φc j = some ch) := by
  intro m
  induction m with
  | nil => intro K h; exact ⟨[], h, fun j ch h => by simp [Phi.get] at h, fun i j h => by cases h⟩
  | cons x r ih =>
    obtain ⟨a, c⟩ := x
    intro K h
    simp only [subPK] at h
    split at h
    · rename_i ch0 hg
      obtain ⟨ch, h, hc⟩ := rnC_sound h
      obtain ⟨Φc, hk, h1, h2⟩ := ih h
      refine ⟨_, hk, fun j ch' hj => ?_, fun i j hij => ?_⟩
      · rw [phi_cons] at hj
        cases hb : Nat.beq c j with
        | true => obtain rfl := beq_of hb; rw [hb] at hj; simp at hj; subst hj; exact ⟨a, ch0, by simp, hg, hc⟩
        | false =>
          rw [hb] at hj
          obtain ⟨i, c0, q1, q2, q3⟩ := h1 j ch' hj
          exact ⟨i, c0, by simp [q1], q2, q3⟩
      · rw [phi_cons]
        cases hb : Nat.beq c j with
        | true => exact ⟨ch, rfl⟩
        | false =>
          simp only [List.mem_cons, Prod.mk.injEq] at hij
          rcases hij with ⟨rfl, rfl⟩ | hij
          · rw [Nat.beq_refl] at hb; cases hb
          · exact h2 i j hij
    · exact h.elim

/-! Ids that may no longer be named. -/
theorem okIds_and {p q : Nat → Bool} : ∀ {sv : SV}, sv.okIds p = true → sv.okIds q = true → sv.okIds (fun i => p i && q i) = true := by
  intro sv
  refine SV.rec (motive_1 := fun sv => sv.okIds p = true → sv.okIds q = true → sv.okIds (fun i => p i && q i) = true) (motive_2 := fun _ => True) (motive_3 := fun l => SV.okIdsL p l = true → SV.okIdsL q l = true → SV.okIdsL (fun i => p i && q i) l = true)
    ?_ ?_ ?_ ?_ ?_ ?_ ?_ ?_ ?_ ?_ ?_ ?_ ?_ ?_ ?_ ?_ ?_ ?_ ?_ ?_ ?_ sv
  all_goals try (intros; trivial)
  all_goals try (intros; simp_all [SV.okIds, SV.okIdsL]; done)
theorem okIds_all : ∀ (sv : SV), sv.okIds (fun _ => true) = true := by
  intro sv
  refine SV.rec (motive_1 := fun sv => sv.okIds (fun _ => true) = true) (motive_2 := fun _ => True) (motive_3 := fun l => SV.okIdsL (fun _ => true) l = true)
    ?_ ?_ ?_ ?_ ?_ ?_ ?_ ?_ ?_ ?_ ?_ ?_ ?_ ?_ ?_ ?_ ?_ ?_ ?_ ?_ ?_ sv
  all_goals try (intros; trivial)
  all_goals try (intros; simp_all [SV.okIds, SV.okIdsL]; done)
theorem okIds_mono {p q : Nat → Bool} (hpq : ∀ i, p i = true → q i = true) : ∀ {sv : SV}, sv.okIds p = true → sv.okIds q = true := fun {sv} h => SV.okIds_mono hpq sv h
/-- it names none of these -/
def NoneOf (S : List Nat) (sv : SV) : Prop := ∀ i ∈ S, sv.okIds (fun k => !Nat.beq k i) = true
theorem NoneOf.ok {S : List Nat} {sv : SV} (h : NoneOf S sv) : sv.okIds (fun k => !memN k S) = true := by
  induction S with
  | nil =>
    exact okIds_mono (fun i _ => rfl) (okIds_all sv)
  | cons i S ih =>
    have h1 := h i (by simp)
    have h2 := ih (fun k hk => h k (by simp [hk]))
    refine okIds_mono (fun k hk => ?_) (okIds_and h1 h2)
    simp only [Bool.and_eq_true, Bool.not_eq_true'] at hk
    simp only [memN, Bool.not_eq_true', Bool.or_eq_false_iff]
    refine ⟨?_, hk.2⟩
    have := hk.1
    cases hq : Nat.beq i k with
    | false => rfl
    | true => obtain rfl := beq_of hq; rw [Nat.beq_refl] at this; cases this
theorem memN_iff {i : Nat} {l : List Nat} : memN i l = true ↔ i ∈ l := by
  induction l with
  | nil => simp [memN]
  | cons x r ih =>
    simp only [memN, Bool.or_eq_true, ih, List.mem_cons]
    constructor
    · rintro (h | h)
      · exact .inl (beq_of h).symm
      · exact .inr h
    · rintro (rfl | h)
      · exact .inl (Nat.beq_refl _)
      · exact .inr h
end Go.Vc

namespace Go.Vc
set_option autoImplicit false
set_option linter.unusedVariables false
set_option linter.unusedSimpArgs false

theorem reachK_sound {Φ : Phi} : ∀ {f : Nat} {todo : List Nat} {m : NN} {ns : List Nat} {K : NN → Prop}, reachK Φ f todo m ns K → ∃ m, K m
  | 0, _, _, _, _, h => h.elim
  | f + 1, [], m, _, K, h => ⟨m, h⟩
  | f + 1, i :: todo, m, ns, K, h => by
    simp only [reachK] at h
    have snoc : ∀ {x : Nat × Nat} {l : NN} {K : NN → Prop}, snocK x l K → ∃ l', K l' := by
      intro x l
      induction l with
      | nil => intro K h; exact ⟨_, h⟩
      | cons y r ih => intro K h; obtain ⟨l', h⟩ := ih h; exact ⟨_, h⟩
    cases hb : hasFst m i with
    | true => rw [hb] at h; exact reachK_sound h
    | false =>
      rw [hb] at h
      simp only [cond_false] at h
      split at h
      · exact h.elim
      · split at h
        · obtain ⟨_, h⟩ := snoc h; exact reachK_sound h
        · obtain ⟨_, h⟩ := snoc h; exact reachK_sound h
        · exact h.elim

/-- behind what is stale for these ids -/
def StV (S : List Nat) (sv sv' : SV) : Prop := sv' = .und ∨ (sv' = sv ∧ NoneOf S sv)
inductive StS (S : List Nat) : Chunk → Chunk → Prop
  | same {c} (h : ∀ T cs, c ≠ .bx T cs) : StS S c c
  | box {T cs cs'} (hl : cs'.length = cs.length) (h : ∀ (i : Nat) (sv' : SV), cs'[i]? = some sv' → ∃ sv, cs[i]? = some sv ∧ StV S sv sv') : StS S (.bx T cs) (.bx T cs')
theorem StS.kind {S c c'} (h : StS S c c') : c'.kind = c.kind := by cases h <;> rfl
theorem StS.blk {S c c'} (h : StS S c c') (x : Value) : c'.blk x = c.blk x := by
  cases h with
  | same => rfl
  | box => exact blk_box' _ _ _ _
theorem StS.refl (c : Chunk) : StS [] c c := by
  cases c with
  | bx _ cs => exact .box rfl fun i sv' h => ⟨sv', h, .inr ⟨rfl, fun _ h => by cases h⟩⟩
  | _ => exact .same (by intro _ cs h; cases h)
theorem StV.cons {i S sv sv1 sv'} (h1 : Stale i sv sv1) (h2 : StV S sv1 sv') : StV (i :: S) sv sv' := by
  rcases h2 with rfl | ⟨rfl, h2⟩
  · exact .inl rfl
  · rcases h1 with rfl | ⟨rfl, h1⟩
    · exact .inl rfl
    · refine .inr ⟨rfl, fun k hk => ?_⟩
      cases hk with
      | head => exact h1
      | tail _ hk => exact h2 k hk
theorem StS.cons {i S c c1 c'} (h1 : StaleC i c c1) (h2 : StS S c1 c') : StS (i :: S) c c' := by
  cases h1 with
  | same hn =>
    cases h2 with
    | same => exact .same hn
    | box => exact absurd rfl (hn _ _)
  | box hl hh =>
    cases h2 with
    | same hn => exact absurd rfl (hn _ _)
    | box hl2 hh2 =>
      refine .box (hl2.trans hl) fun k sv' hk => ?_
      obtain ⟨sv1, q1, q2⟩ := hh2 k sv' hk
      obtain ⟨sv, p1, p2⟩ := hh k sv1 q1
      exact ⟨sv, p1, StV.cons p2 q2⟩

theorem staleMK_sound {Φ0 : Phi} : ∀ {m : NN} {σ : Env} {Φ : Phi} {K : Env → Phi → Prop}, staleMK Φ0 m σ Φ K →
    ∃ S σ' Φ', K σ' Φ' ∧ (∀ i j (τ : Ty) l, (i, j) ∈ m → Phi.get Φ0 i = some (.own τ l) → i ∈ S) ∧
      (∀ k g sv', Env.get σ' k = some (g, sv') → ∃ sv, Env.get σ k = some (g, sv) ∧ StV S sv sv') ∧
      (∀ j, (∀ c', Phi.get Φ' j = some c' → ∃ c, Phi.get Φ j = some c ∧ StS S c c') ∧ (∀ c, Phi.get Φ j = some c → ∃ c', Phi.get Φ' j = some c')) := by
  intro m
  induction m with
  | nil =>
    intro σ Φ K h
    exact ⟨[], σ, Φ, h, (fun i j τ l h => by cases h), fun k g sv' hk => ⟨sv', hk, .inr ⟨rfl, fun _ h => by cases h⟩⟩, fun j => ⟨fun c' h => ⟨c', h, .refl _⟩, fun c h => ⟨c, h⟩⟩⟩
  | cons x r ih =>
    obtain ⟨i, j0⟩ := x
    intro σ Φ K h
    simp only [staleMK] at h
    split at h
    · obtain ⟨σ1, h, hσ1⟩ := staleE_sound h
      obtain ⟨Φ1, h, hΦ1⟩ := staleP_sound h
      obtain ⟨S, σ', Φ', hk, h1, h2, h3⟩ := ih h
      refine ⟨i :: S, σ', Φ', hk, fun k j τ l hm hg => ?_, fun k g sv' hs => ?_, fun j => ⟨fun c' hj => ?_, fun c hj => ?_⟩⟩
      · simp only [List.mem_cons, Prod.mk.injEq] at hm
        rcases hm with ⟨rfl, rfl⟩ | hm
        · simp
        · exact List.mem_cons_of_mem _ (h1 k j τ l hm hg)
      · obtain ⟨sv1, q1, q2⟩ := h2 k g sv' hs
        obtain ⟨sv, p1, p2⟩ := hσ1 k g sv1 q1
        exact ⟨sv, p1, StV.cons p2 q2⟩
      · obtain ⟨c1, q1, q2⟩ := (h3 j).1 c' hj
        obtain ⟨c, p1, p2⟩ := (hΦ1 j).1 c1 q1
        exact ⟨c, p1, StS.cons p2 q2⟩
      · obtain ⟨c1, q1⟩ := (hΦ1 j).2 c hj
        exact (h3 j).2 c1 q1
    · rename_i hno
      obtain ⟨S, σ', Φ', hk, h1, h2, h3⟩ := ih h
      refine ⟨S, σ', Φ', hk, fun k j τ l hm hg => ?_, h2, h3⟩
      simp only [List.mem_cons, Prod.mk.injEq] at hm
      rcases hm with ⟨rfl, rfl⟩ | hm
      · exact absurd hg (hno τ l)
      · exact h1 k j τ l hm hg

theorem newMK_sound {σ : Env} {Φ : Phi} : ∀ {Φ' : Phi} {M : NN} {n : Nat} {K : NN → Nat → Prop}, newMK σ Φ Φ' M n K →
    ∃ P M' n', M' = P ++ M ∧ K M' n' ∧ (∀ j i, (j, i) ∈ P → freshE i σ = true ∧ freshP i Φ = true) ∧ (∀ j ch, Phi.get Φ' j = some ch → hasFst M' j = true) := by
  intro Φ'
  induction Φ' with
  | nil => intro M n K h; exact ⟨[], M, n, rfl, h, (fun j i h => by cases h), fun j ch h => by simp [Phi.get] at h⟩
  | cons x r ih =>
    obtain ⟨j0, c0⟩ := x
    intro M n K h
    simp only [newMK] at h
    have key : ∀ {M1 : NN} {P M' : NN}, M' = P ++ M1 → hasFst M1 j0 = true → (∀ j ch, Phi.get r j = some ch → hasFst M' j = true) → ∀ j ch, Phi.get ((j0, c0) :: r) j = some ch → hasFst M' j = true := by
      intro M1 P M' he hj hr j ch hg
      rw [phi_cons] at hg
      cases hb : Nat.beq j0 j with
      | true =>
        obtain rfl := beq_of hb
        obtain ⟨i, hi⟩ := hasFst_iff.1 hj
        exact hasFst_iff.2 ⟨i, by rw [he]; simp [hi]⟩
      | false => rw [hb] at hg; exact hr j ch hg
    cases hb : hasFst M j0 with
    | true =>
      rw [hb] at h
      obtain ⟨P, M', n', he, hk, h1, h2⟩ := ih h
      exact ⟨P, M', n', he, hk, h1, key he hb h2⟩
    | false =>
      rw [hb] at h
      simp only [cond_false] at h
      cases hc : (freshE n σ && (freshP n Φ && !hasSnd M n)) with
      | false => rw [hc] at h; exact h.elim
      | true =>
        rw [hc] at h
        simp only [Bool.and_eq_true] at hc
        obtain ⟨P, M', n', he, hk, h1, h2⟩ := ih h
        refine ⟨P ++ [(j0, n)], M', n', by rw [he]; simp, hk, fun j i hm => ?_, key he (hasFst_iff.2 ⟨n, by simp⟩) h2⟩
        simp only [List.mem_append, List.mem_singleton, Prod.mk.injEq] at hm
        rcases hm with hm | ⟨rfl, rfl⟩
        · exact h1 j i hm
        · exact ⟨hc.1, hc.2.1⟩

theorem backPK_sound {M : NN} (hn : nodupFst M = true) (hn2 : nodupSnd M = true) : ∀ {Φ' : Phi} {K : Phi → Prop}, backPK M Φ' K → ∃ Φb, K Φb ∧
    (∀ i ch, Phi.get Φb i = some ch → ∃ j ch', lookF M j = some i ∧ Phi.get Φ' j = some ch' ∧ RnC M ch' ch) ∧
    (∀ j ch', Phi.get Φ' j = some ch' → ∃ i ch, lookF M j = some i ∧ Phi.get Φb i = some ch ∧ RnC M ch' ch) := by
  intro Φ'
  induction Φ' with
  | nil => intro K h; exact ⟨[], h, fun i ch h => by simp [Phi.get] at h, fun j ch h => by simp [Phi.get] at h⟩
  | cons x r ih =>
    obtain ⟨j0, c0⟩ := x
    intro K h
    obtain ⟨i0, hj0, h⟩ := lookK_sound h
    obtain ⟨c1, h, hc⟩ := rnC_sound h
    obtain ⟨Φb, hk, h1, h2⟩ := ih h
    have inj : ∀ {j i}, lookF M j = some i → (j = j0 ↔ i = i0) := by
      intro j i hj
      constructor
      · rintro rfl; rw [hj0] at hj; cases hj; rfl
      · rintro rfl
        have a1 := lookB_of hn2 (lookF_mem hj)
        have a2 := lookB_of hn2 (lookF_mem hj0)
        rw [a1] at a2; cases a2; rfl
    refine ⟨_, hk, fun i ch hi => ?_, fun j ch' hj => ?_⟩
    · rw [phi_cons] at hi
      cases hb : Nat.beq i0 i with
      | true =>
        obtain rfl := beq_of hb
        rw [hb] at hi; simp at hi; subst hi
        exact ⟨j0, c0, hj0, by rw [phi_cons, Nat.beq_refl]; rfl, hc⟩
      | false =>
        rw [hb] at hi
        obtain ⟨j, ch', q1, q2, q3⟩ := h1 i ch hi
        refine ⟨j, ch', q1, ?_, q3⟩
        have : ¬ j = j0 := fun he => by
          have := (inj q1).1 he
          subst this; rw [Nat.beq_refl] at hb; cases hb
        rw [phi_cons, nbeq_of (fun he => this he.symm)]; exact q2
    · rw [phi_cons] at hj
      cases hb : Nat.beq j0 j with
      | true =>
        obtain rfl := beq_of hb
        rw [hb] at hj; simp at hj; subst hj
        exact ⟨i0, c1, hj0, by rw [phi_cons, Nat.beq_refl]; rfl, hc⟩
      | false =>
        rw [hb] at hj
        obtain ⟨i, ch, q1, q2, q3⟩ := h2 j ch' hj
        refine ⟨i, ch, q1, ?_, q3⟩
        have : ¬ i = i0 := fun he => by
          have := (inj q1).2 he
          subst this; rw [Nat.beq_refl] at hb; cases hb
        rw [phi_cons, nbeq_of (fun he => this he.symm)]; exact q2

theorem dropMK_sound {m : NN} : ∀ {Φ : Phi} {K : Phi → Prop}, dropMK m Φ K → ∃ Φr, K Φr ∧ ∀ i, Phi.get Φr i = bif hasFst m i then none else Phi.get Φ i := by
  intro Φ
  induction Φ with
  | nil => intro K h; exact ⟨[], h, fun i => by cases hasFst m i <;> rfl⟩
  | cons x r ih =>
    obtain ⟨k, c⟩ := x
    intro K h
    simp only [dropMK] at h
    cases hb : hasFst m k with
    | true =>
      rw [hb] at h
      obtain ⟨Φr, hk, hh⟩ := ih h
      refine ⟨Φr, hk, fun i => ?_⟩
      rw [hh, phi_cons]
      cases hq : Nat.beq k i with
      | true => obtain rfl := beq_of hq; rw [hb]; rfl
      | false => rfl
    | false =>
      rw [hb] at h
      obtain ⟨Φr, hk, hh⟩ := ih h
      refine ⟨_, hk, fun i => ?_⟩
      rw [phi_cons, phi_cons, hh]
      cases hq : Nat.beq k i with
      | true => obtain rfl := beq_of hq; rw [hb]; rfl
      | false => rfl
theorem appPK_eq (F R : Phi) : ∀ (K : Phi → Prop), appPK F R K = K (F ++ R) := by
  induction F with
  | nil => intro K; rfl
  | cons e F ih => intro K; show appPK F R _ = _; rw [ih]; rfl
theorem phi_app (F R : Phi) (id : Nat) : Phi.get (F ++ R) id = match Phi.get F id with | some c => some c | none => Phi.get R id := by
  induction F with
  | nil => rfl
  | cons x r ih =>
    obtain ⟨k, c⟩ := x
    rw [List.cons_append, phi_cons, phi_cons, ih]
    cases Nat.beq k id <;> rfl

theorem plainI0_keep {r r2 β sv v} (h : Rel r β sv v) (hp : sv.plainI0 = true) : Rel r2 β sv v := plainI0_rel h hp (fun _ _ => rfl)
theorem plainI1_keep {r r2 β sv v} (h : Rel r β sv v) (hp : sv.plainI1 = true) : Rel r2 β sv v := by
  by_cases hx : ∃ l, sv = .agg l
  · obtain ⟨l, rfl⟩ := hx
    obtain ⟨cs, rfl, hl⟩ := h.aggL_inv
    exact .aggL ⟨hl.1, fun i sv v q1 q2 => plainI0_keep (hl.2 i sv v q1 q2) (plainI0L_get hp i sv q1)⟩
  · have : sv.plainI0 = true := by cases sv <;> first | exact hp | exact (hx ⟨_, rfl⟩).elim
    exact plainI0_keep h this
theorem plainI_keep {r r2 β sv v} (h : Rel r β sv v) (hp : sv.plainI = true) : Rel r2 β sv v := by
  by_cases hx : ∃ l, sv = .tup l
  · obtain ⟨l, rfl⟩ := hx
    obtain ⟨cs, rfl, hl⟩ := h.tupL_inv
    exact .tupL ⟨hl.1, fun i sv v q1 q2 => plainI1_keep (hl.2 i sv v q1 q2) (plainI1L_get hp i sv q1)⟩
  · have : sv.plainI1 = true := by cases sv <;> first | exact hp | exact (hx ⟨_, rfl⟩).elim
    exact plainI1_keep h this
theorem own_plain_sat {r r2 β w x} {τ : Ty} {l : List τ.T} (h : Chunk.Sat r β w x (.own τ l)) (hp : τ.plain = true) : Chunk.Sat r2 β w x (.own τ l) := by
  cases h with
  | own h =>
    refine .own ?_
    rcases h with ⟨a, h1, h2⟩ | ⟨b, off, cap, c, T, fr, he, hc0, hw, h0, h1, h2, h3, h4, h4', h5⟩
    · exact .inl ⟨a, h1, h2⟩
    · refine .inr ⟨b, off, cap, c, T, fr, he, hc0, hw, h0, h1, h2, h3, h4, h4', fun i row j sv v q1 q2 q3 => ?_⟩
      have hi : i < l.length := by have := lt_len q1; simpa using this
      have e : row = τ.enc l[i] := by
        rw [List.getElem?_map, List.getElem?_eq_getElem hi] at q1
        simpa using q1.symm
      exact plain0_rel (h5 i row j sv v q1 q2 q3) (tyPlain_enc τ _ hp j sv (by rw [← e]; exact q2)) _ _
end Go.Vc
