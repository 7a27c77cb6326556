/- A part of the proof: lemmas and walks that the last text of the claim joins; no condition. -/
import Derived.Test.YtgggnkinalmmlaaVcD
import Derived.Lib.Builder
import Derived.Lib.UnsafeStr
import Derived.Laws.IdiomStrings
set_option linter.unusedVariables false
set_option linter.unusedSimpArgs false
namespace Go.Vc
set_option autoImplicit false
set_option linter.unusedVariables false
set_option linter.unusedSimpArgs false

/-- what is known behind a call -/
structure After (B : Base) (e : Entry) (N : Nat) (a : Act) (σ : Env) (K : EK) (v : Value) (w' : World) : Prop where
  ex : ∃ sv σ' Φ2 n' r2 β2, K sv σ' Φ2 n' ∧ Rel r2 β2 sv v ∧ Sat B e N r2 β2 σ' Φ2 a w' ∧ ∀ D, GdIn D σ → GdIn D σ'

/-- behind a call that was handed the chunks of m, and lent those of q -/
theorem afterK_sound {B : Base} {e N a w} {m : NN} {res : SV} {Φ' : Phi} {σ : Env} {Φ : Phi} {n : Nat} {K : EK} (h : afterK m res Φ' σ Φ n K) {r β} (s : Sat B e N r β σ Φ a w)
    {q : Nat → Bool} (hq : ∀ i, q i = true → hasFst m i = false) {Φc : Phi}
    (hc1 : ∀ j ch, Phi.get Φc j = some ch → ∃ i ch0, (i, j) ∈ m ∧ Phi.get Φ i = some ch0 ∧ RnC m ch0 ch) (hc2 : ∀ i j, (i, j) ∈ m → ∃ ch, Phi.get Φc j = some ch) :
    ∃ βc, Rn m β βc ∧ MemSat (frz q r β Φ w) βc Φc w ∧ ∀ {r' βc' w' v} {r2 : Mem}, MemSat r' βc' Φ' w' → (frz q r β Φ w).le r' → Hid (frz q r β Φ w) βc Φc w r' βc' Φ' w' →
      r.le r2 → r2.le r' → (∀ id ch b, q id = true → Phi.get Φ id = some ch → ch.kind = 0 → ch.blk (β id) = some b → r2 b = none) → Rel r2 βc' res v →
      (∀ j ch, Phi.get Φ' j = some ch → ch.Sat r2 βc' w' (βc' j)) → After B e N a σ K v w' := by
  unfold afterK at h
  obtain ⟨S, σ', Φ1, h, hS, hσ, hΦ1⟩ := staleMK_sound h
  obtain ⟨M0, h, hM0⟩ := swapK_sound h
  obtain ⟨P, M, n', hM, h, hP, hall⟩ := newMK_sound h
  cases hnd : (nodupFst M && nodupSnd M) with
  | false => rw [hnd] at h; exact h.elim
  | true =>
  rw [hnd] at h
  simp only [cond_true] at h
  simp only [Bool.and_eq_true] at hnd
  obtain ⟨hn1, hn2⟩ := hnd
  have hn1' : nodupFst M0 = true := nodupFst_app (hM ▸ hn1)
  have hn2' : nodupSnd M0 = true := nodupSnd_app (hM ▸ hn2)
  obtain ⟨res', h, hres⟩ := rn2_sound h
  obtain ⟨Φb, h, hb1, hb2⟩ := backPK_sound hn1 hn2 h
  obtain ⟨Φr, h, hr1⟩ := dropMK_sound h
  rw [appPK_eq] at h
  obtain ⟨βc, hβc⟩ : ∃ βc : Bind, βc = fun j => match lookF M0 j with | some i => β i | none => .nilIface := ⟨_, rfl⟩
  have hmem : ∀ {i j}, (i, j) ∈ m → βc j = β i := by
    intro i j hij
    have := lookF_of hn1' ((hM0 i j).2 hij)
    rw [hβc]; simp only [this]
  have uniq : ∀ {i j j'}, (i, j) ∈ m → (i, j') ∈ m → j = j' := by
    intro i j j' h1 h2
    have a1 := lookB_of hn2' ((hM0 i j).2 h1)
    have a2 := lookB_of hn2' ((hM0 i j').2 h2)
    rw [a1] at a2; cases a2; rfl
  have hrn : Rn m β βc := fun i j hij => hmem (lookF_mem hij)
  have hcB : ∀ j ch b, Phi.get Φc j = some ch → ch.blk (βc j) = some b → ∃ i ch0, (i, j) ∈ m ∧ Phi.get Φ i = some ch0 ∧ ch0.blk (β i) = some b := by
    intro j ch b h1 h2
    obtain ⟨i, ch0, g1, g2, g3⟩ := hc1 j ch h1
    rw [hmem g1, g3.blk] at h2
    exact ⟨i, ch0, g1, g2, h2⟩
  have notq : ∀ {i j}, (i, j) ∈ m → q i = false := by
    intro i j hij
    cases hqi : q i with
    | false => rfl
    | true =>
      have := hq i hqi
      rw [hasFst_iff.2 ⟨j, hij⟩] at this; cases this
  have frzn : ∀ {i j ch0 b}, (i, j) ∈ m → Phi.get Φ i = some ch0 → ch0.blk (β i) = some b → frz q r β Φ w b = none := by
    intro i j ch0 b h1 h2 h3
    rw [frz_not, s.mem.sep _ _ _ h2 h3]
    intro id ch q1 q2 _ q4
    have := s.mem.nod _ _ _ _ _ q2 h2 q4 h3
    subst this
    rw [notq h1] at q1; cases q1
  have mc : MemSat (frz q r β Φ w) βc Φc w := by
    refine ⟨frz_vis s.mem, fun j ch hj => ?_, fun j ch b hj hb => ?_, fun j j' ch ch' b hj hj' hb hb' => ?_⟩
    · obtain ⟨i, ch0, g1, g2, g3⟩ := hc1 j ch hj
      rw [hmem g1]
      exact g3.sat (frz_le s.mem) hrn (s.mem.chs _ _ g2) (fun _ _ => rfl)
    · obtain ⟨i, ch0, g1, g2, g3⟩ := hcB j ch b hj hb
      exact frzn g1 g2 g3
    · obtain ⟨i, ch0, g1, g2, g3⟩ := hcB j ch b hj hb
      obtain ⟨i', ch0', g1', g2', g3'⟩ := hcB j' ch' b hj' hb'
      have := s.mem.nod _ _ _ _ _ g2 g2' g3 g3'
      subst this
      exact uniq g1 g1'
  refine ⟨βc, hrn, mc, fun {r' βc' w' v r2} m' hle hid h1 h2 h3 hv hch => ?_⟩
  obtain ⟨β2, hβ2⟩ : ∃ β2 : Bind, β2 = fun i => match lookB M i with | some j => βc' j | none => β i := ⟨_, rfl⟩
  have F1 : ∀ {i j}, lookF M j = some i → β2 i = βc' j := by
    intro i j hij
    have := lookB_of hn2 (lookF_mem hij)
    rw [hβ2]; simp only [this]
  have inM : ∀ {i j}, (i, j) ∈ m → (j, i) ∈ M := by
    intro i j hij; rw [hM]; exact List.mem_append_right _ ((hM0 i j).2 hij)
  have F2 : ∀ {i j ch}, (i, j) ∈ m → Phi.get Φ i = some ch → ch.kind ≠ 0 → β2 i = β i ∧ ∃ ch', Phi.get Φ' j = some ch' ∧ ch'.kind = ch.kind := by
    intro i j ch hij hg hk
    obtain ⟨c, hc⟩ := hc2 i j hij
    obtain ⟨i', ch0, g1, g2, g3⟩ := hc1 j c hc
    have : i' = i := by
      have a1 := lookF_of hn1' ((hM0 i' j).2 g1)
      have a2 := lookF_of hn1' ((hM0 i j).2 hij)
      rw [a1] at a2; cases a2; rfl
    subst this
    rw [hg] at g2; cases g2
    obtain ⟨k1, ch', k2, k3⟩ := hid.keep j c hc (by rw [g3.kind]; exact hk)
    refine ⟨?_, ch', k2, k3.trans g3.kind⟩
    rw [F1 (lookF_of hn1 (inM hij)), k1, hmem hij]
  have mget : ∀ {i j}, (i, j) ∈ m → ∃ ch, Phi.get Φ i = some ch := by
    intro i j hij
    obtain ⟨c, hc⟩ := hc2 i j hij
    obtain ⟨i', ch0, g1, g2, g3⟩ := hc1 j c hc
    have : i' = i := by
      have a1 := lookF_of hn1' ((hM0 i' j).2 g1)
      have a2 := lookF_of hn1' ((hM0 i j).2 hij)
      rw [a1] at a2; cases a2; rfl
    subst this
    exact ⟨ch0, g2⟩
  have F4 : ∀ {sv v}, NoneOf (S ++ P.map (·.2)) sv → Rel r β sv v → Rel r2 β2 sv v := by
    intro sv v hn hr
    refine (hr.bind (p := fun k => !memN k (S ++ P.map (·.2))) (fun k hk => ?_) hn.ok).mono h1
    simp only [Bool.not_eq_true'] at hk
    have hk' : k ∉ S ++ P.map (·.2) := fun hm => by rw [memN_iff.2 hm] at hk; cases hk
    rw [List.mem_append, not_or] at hk'
    cases hl : lookB M k with
    | none => rw [hβ2]; simp only [hl]
    | some j =>
      have hmM := lookB_mem hl
      rw [hM, List.mem_append] at hmM
      rcases hmM with hmM | hmM
      · exact absurd (List.mem_map.2 ⟨(j, k), hmM, rfl⟩) hk'.2
      · have hkm := (hM0 k j).1 hmM
        obtain ⟨ch, hg⟩ := mget hkm
        refine (F2 hkm hg fun h0 => ?_).1
        cases ch with
        | own τ l => exact hk'.1 (hS k j τ l hkm hg)
        | _ => cases h0
  obtain ⟨g1, g2, g3⟩ := back (I := fun i => ∃ j, (i, j) ∈ m) s.mem (fun j ch b p1 p2 => by
    obtain ⟨i, ch0, q1, q2, q3⟩ := hcB j ch b p1 p2
    exact ⟨i, ch0, ⟨j, q1⟩, q2, q3⟩) (fun i ⟨j, hj⟩ => notq hj) hle m' hid r2 h2 h3
  have get : ∀ i ch, Phi.get (Φb ++ Φr) i = some ch → (∃ j ch', lookF M j = some i ∧ Phi.get Φ' j = some ch' ∧ RnC M ch' ch ∧ β2 i = βc' j) ∨
      (¬ (∃ j, (i, j) ∈ m) ∧ β2 i = β i ∧ Phi.get Φ1 i = some ch ∧ ∃ c, Phi.get Φ i = some c ∧ StS S c ch) := by
    intro i ch hi
    rw [phi_app] at hi
    cases hq : Phi.get Φb i with
    | some c =>
      rw [hq] at hi; cases hi
      obtain ⟨j, ch', q1, q2, q3⟩ := hb1 i ch hq
      exact .inl ⟨j, ch', q1, q2, q3, F1 q1⟩
    | none =>
      rw [hq] at hi
      simp only [hr1] at hi
      cases hf : hasFst m i with
      | true => rw [hf] at hi; cases hi
      | false =>
        rw [hf] at hi
        have hnm : ¬ ∃ j, (i, j) ∈ m := fun hj => by rw [hasFst_iff.2 hj] at hf; cases hf
        refine .inr ⟨hnm, ?_, hi, (hΦ1 i).1 ch hi⟩
        cases hl : lookB M i with
        | none => rw [hβ2]; simp only [hl]
        | some j =>
          exfalso
          have hmM := lookB_mem hl
          rw [hM, List.mem_append] at hmM
          rcases hmM with hmM | hmM
          · exact (freshP_get (hP j i hmM).2 i ch hi).1 rfl
          · exact hnm ⟨j, (hM0 i j).1 hmM⟩
  have hrnM : Rn M βc' β2 := fun j i hji => F1 hji
  refine ⟨res', σ', Φb ++ Φr, n', r2, β2, h, hres _ _ _ _ hrnM hv, ?_, fun D hD k s0 w0 sv0 hk0 => ?_⟩
  · refine s.step (s.agree.of fun k g sv' hk => ?_) ?_ h1 ?_
    · obtain ⟨sv, q1, q2⟩ := hσ k g sv' hk
      refine ⟨sv, q1, fun v hr => ?_⟩
      rcases q2 with rfl | ⟨rfl, q2⟩
      · exact .und
      · refine F4 (fun i hi => ?_) hr
        rw [List.mem_append] at hi
        rcases hi with hi | hi
        · exact q2 i hi
        · obtain ⟨⟨j, i'⟩, hji, rfl⟩ := List.mem_map.1 hi
          exact freshE_get (hP j i' hji).1 k g sv' hk
    · refine ⟨g2, fun i ch hi => ?_, fun i ch b hi hb => ?_, fun i i' ch ch' b hi hi' hb hb' => ?_⟩
      · rcases get i ch hi with ⟨j, ch', q1, q2, q3, q4⟩ | ⟨hnm, q1, q2, c, q3, q4⟩
        · rw [q4]
          exact q3.sat (Mem.le_refl r2) hrnM (hch j ch' q2) (fun _ _ => rfl)
        · rw [q1]
          have hs := s.mem.chs _ _ q3
          have hkeep : ∀ b, c.blk (β i) = some b → w'.heap[b]? = w.heap[b]? := fun b hb => (g1 i c b hnm q3 hb).1
          cases q4 with
          | same hnb => exact hs.keep h1 hkeep (fun T cells he => (hnb T cells he).elim)
          | box hl hh =>
            cases hs with
            | box hx hw hlc hcc hT =>
              refine .box hx (by rw [hkeep _ (by rw [hx]; rfl)]; exact hw) (by rw [hlc, hl]) (fun k sv v p1 p2 => ?_) hT
              obtain ⟨sv0, a1, a2⟩ := hh k sv p1
              rcases a2 with rfl | ⟨rfl, a2⟩
              · exact .und
              · refine F4 (fun i0 hi0 => ?_) (hcc k sv v a1 p2)
                rw [List.mem_append] at hi0
                rcases hi0 with hi0 | hi0
                · exact a2 i0 hi0
                · obtain ⟨⟨j, i'⟩, hji, rfl⟩ := List.mem_map.1 hi0
                  have := (freshP_get (hP j i' hji).2 i _ q2).2
                  exact SV.okIdsL_get this k sv p1
      · rcases get i ch hi with ⟨j, ch', q1, q2, q3, q4⟩ | ⟨hnm, q1, q2, c, q3, q4⟩
        · rw [q4, q3.blk] at hb
          have := m'.sep _ _ _ q2 hb
          cases hq : r2 b with
          | none => rfl
          | some o => rw [h2 b o hq] at this; cases this
        · rw [q1, q4.blk] at hb
          exact (g1 i c b hnm q3 hb).2.1
      · rcases get i ch hi with ⟨j, cj, q1, q2, q3, q4⟩ | ⟨hnm, q1, q2, c, q3, q4⟩ <;> rcases get i' ch' hi' with ⟨j', cj', q1', q2', q3', q4'⟩ | ⟨hnm', q1', q2', c', q3', q4'⟩
        · rw [q4, q3.blk] at hb
          rw [q4', q3'.blk] at hb'
          have := m'.nod _ _ _ _ _ q2 q2' hb hb'
          subst this
          rw [q1] at q1'; cases q1'; rfl
        · rw [q4, q3.blk] at hb
          rw [q1', q4'.blk] at hb'
          exact ((g1 i' c' b hnm' q3' hb').2.2 j cj q2 hb).elim
        · rw [q1, q4.blk] at hb
          rw [q4', q3'.blk] at hb'
          exact ((g1 i c b hnm q3 hb).2.2 j' cj' q2' hb').elim
        · rw [q1, q4.blk] at hb
          rw [q1', q4'.blk] at hb'
          exact s.mem.nod _ _ _ _ _ q3 q3' hb hb'
    · refine ⟨hid.os, hid.tape, hid.output, hid.size, fun b hb p1 p2 => ?_, fun i ch hi hk => ?_⟩
      · obtain ⟨a1, a2, a3⟩ := g3 b hb p1 p2
        refine ⟨a1, a2, fun i ch hi hcb => ?_⟩
        rcases get i ch hi with ⟨j, ch', q1, q2, q3, q4⟩ | ⟨hnm, q1, q2, c, q3, q4⟩
        · rw [q4, q3.blk] at hcb
          exact a3 j ch' q2 hcb
        · rw [q1, q4.blk] at hcb
          exact p2 i c q3 hcb
      · cases hf : hasFst m i with
        | true =>
          obtain ⟨j, hij⟩ := hasFst_iff.1 hf
          obtain ⟨k1, ch', k2, k3⟩ := F2 hij hi hk
          obtain ⟨i', ch2, q1, q2, q3⟩ := hb2 j ch' k2
          have : i' = i := by
            have := lookF_of hn1 (inM hij)
            rw [this] at q1; cases q1; rfl
          subst this
          exact ⟨k1, ch2, by rw [phi_app, q2], q3.kind.trans k3⟩
        | false =>
          have hnm : ¬ ∃ j, (i, j) ∈ m := fun hj => by rw [hasFst_iff.2 hj] at hf; cases hf
          obtain ⟨c1, hc1'⟩ := (hΦ1 i).2 ch hi
          obtain ⟨c0, p1, p2⟩ := (hΦ1 i).1 c1 hc1'
          rw [hi] at p1; cases p1
          have hnl : lookB M i = none := by
            cases hl : lookB M i with
            | none => rfl
            | some j =>
              exfalso
              have hmM := lookB_mem hl
              rw [hM, List.mem_append] at hmM
              rcases hmM with hmM | hmM
              · exact (freshP_get (hP j i hmM).2 i c1 hc1').1 rfl
              · exact hnm ⟨j, (hM0 i j).1 hmM⟩
          have hnb : Phi.get Φb i = none := by
            cases hq : Phi.get Φb i with
            | none => rfl
            | some c =>
              obtain ⟨j, ch', q1, _, _⟩ := hb1 i c hq
              have := lookB_of hn2 (lookF_mem q1)
              rw [hnl] at this; cases this
          refine ⟨by rw [hβ2]; simp only [hnl], c1, ?_, p2.kind⟩
          rw [phi_app, hnb]
          simp only [hr1, hf, cond_false]
          exact hc1'
  · obtain ⟨sv1, q1, _⟩ := hσ k _ _ hk0
    exact hD _ _ _ _ q1
end Go.Vc

namespace Go.Vc
set_option autoImplicit false
set_option linter.unusedVariables false
set_option linter.unusedSimpArgs false

theorem mem_own0L {id : Nat} {l : List SV} {r : List Nat} : id ∈ own0L l r ↔ (SV.own id ∈ l ∨ id ∈ r) := by
  induction l with
  | nil => simp [own0L]
  | cons x xs ih =>
    simp only [own0L, List.mem_cons]
    by_cases hx : ∃ i, x = .own i
    · obtain ⟨i, rfl⟩ := hx
      simp only [own0, List.mem_cons, ih, SV.own.injEq]
      constructor
      · rintro (h | h | h)
        · exact .inl (.inl h)
        · exact .inl (.inr h)
        · exact .inr h
      · rintro ((h | h) | h)
        · exact .inl h
        · exact .inr (.inl h)
        · exact .inr (.inr h)
    · have e : own0 x (own0L xs r) = own0L xs r := by cases x <;> first | rfl | exact (hx ⟨_, rfl⟩).elim
      rw [e, ih]
      constructor
      · rintro (h | h)
        · exact .inl (.inr h)
        · exact .inr h
      · rintro ((h | h) | h)
        · exact (hx ⟨id, h.symm⟩).elim
        · exact .inl h
        · exact .inr h
theorem own1L_cons {id : Nat} {x : SV} {xs : List SV} : (id ∈ own1L xs → id ∈ own1L (x :: xs)) ∧ (x = .own id → id ∈ own1L (x :: xs)) ∧ (∀ l, x = .agg l → SV.own id ∈ l → id ∈ own1L (x :: xs)) := by
  by_cases hx : ∃ l, x = .agg l
  · obtain ⟨l, rfl⟩ := hx
    refine ⟨fun h => mem_own0L.2 (.inr h), (fun h => by cases h), fun l' h hm => ?_⟩
    cases h; exact mem_own0L.2 (.inl hm)
  · have e : own1L (x :: xs) = own0 x (own1L xs) := by cases x <;> first | rfl | exact (hx ⟨_, rfl⟩).elim
    rw [e]
    refine ⟨fun h => ?_, fun h => by subst h; simp [own0], fun l h => (hx ⟨l, h⟩).elim⟩
    cases x <;> first | exact h | (simp [own0, h])

theorem ln0_q {Φ : Phi} {x : SV} {K : SV → Prop} (h : ln0 Φ x K) : ∃ y, K y ∧ ∀ q r β w v, (∀ id, x = .own id → q id = true) → MemSat r β Φ w → Rel r β x v → Rel (frz q r β Φ w) β y v := by
  by_cases hx : ∃ id, x = .own id
  · obtain ⟨id, rfl⟩ := hx
    simp only [ln0] at h
    split at h
    · rename_i τ l hg
      refine ⟨_, h, fun q r β w v hq m hr => ?_⟩
      cases hr
      exact own_frz m (hq id rfl) hg β
    · exact h.elim
  · have h' : K x := by cases x <;> first | exact h | exact (hx ⟨_, rfl⟩).elim
    exact ⟨x, h', fun q r β w v _ m hr => hr.mono (frz_le m)⟩
theorem lendK_q {Φ : Phi} : ∀ {xs : List SV} {K : List SV → Prop}, lendK Φ xs K → ∃ ys, K ys ∧ ∀ q r β w vs, (∀ id ∈ own1L xs, q id = true) → MemSat r β Φ w → RelL r β xs vs → RelL (frz q r β Φ w) β ys vs := by
  intro xs
  induction xs with
  | nil => intro K h; exact ⟨[], h, fun q r β w vs _ m hv => by rw [hv.nil_inv]; exact .nil⟩
  | cons x xs ih =>
    intro K h
    have h : ln1 Φ x fun y => lendK Φ xs fun l => K (y :: l) := h
    have one : ∃ y, (lendK Φ xs fun l => K (y :: l)) ∧ ∀ q r β w v, (∀ id ∈ own1L (x :: xs), q id = true) → MemSat r β Φ w → Rel r β x v → Rel (frz q r β Φ w) β y v := by
      by_cases hx : ∃ l, x = .agg l
      · obtain ⟨l, rfl⟩ := hx
        obtain ⟨ys, hk, hl, hh⟩ := lift_list (D := ln0 Φ) (DL := ln0L Φ) (R := fun x y => ∀ q r β w v, (∀ id, x = .own id → q id = true) → MemSat r β Φ w → Rel r β x v → Rel (frz q r β Φ w) β y v) (fun _ h => h) (fun _ _ _ h => h) (fun _ _ h => ln0_q h) l _ h
        refine ⟨_, hk, fun q r β w v hq m hv => ?_⟩
        obtain ⟨cs, rfl, hcs⟩ := hv.aggL_inv
        refine .aggL ⟨by rw [hcs.1, hl], fun i y v q1 q2 => ?_⟩
        obtain ⟨x0, p1, p2⟩ := hh i y q1
        exact p2 q r β w v (fun id he => hq id (own1L_cons.2.2 l rfl (by rw [← he]; exact List.mem_of_getElem? p1))) m (hcs.2 i x0 v p1 q2)
      · have h' : ln0 Φ x fun y => lendK Φ xs fun l => K (y :: l) := by cases x <;> first | exact h | exact (hx ⟨_, rfl⟩).elim
        obtain ⟨y, hk, hr⟩ := ln0_q h'
        exact ⟨y, hk, fun q r β w v hq m hv => hr q r β w v (fun id he => hq id (own1L_cons.2.1 he)) m hv⟩
    obtain ⟨y, h, hy⟩ := one
    obtain ⟨ys, hk, hys⟩ := ih h
    refine ⟨_, hk, fun q r β w vs hq m hv => ?_⟩
    obtain ⟨v, us, rfl, hv1, hv2⟩ := hv.uncons
    exact RelL.cons (hy q r β w v hq m hv1) (hys q r β w us (fun id hi => hq id (own1L_cons.1 hi)) m hv2)

theorem lentOk_spec {m : NN} {l : List Nat} (h : lentOk m l = true) : ∀ i, memN i l = true → hasFst m i = false := by
  induction l with
  | nil => intro i hi; cases hi
  | cons x r ih =>
    simp only [lentOk, Bool.and_eq_true, Bool.not_eq_true'] at h
    intro i hi
    simp only [memN, Bool.or_eq_true] at hi
    rcases hi with hi | hi
    · rw [← beq_of hi]; exact h.1
    · exact ih h.2 i hi

theorem callMK_sound {B : Base} {e N a w f args lent σ Φ n} {K : EK} (h : callMK B f args lent σ Φ n K) {r β} (s : Sat B e N r β σ Φ a w) {vs : List Value}
    (hargs : RelL (frz (fun i => memN i lent) r β Φ w) β args vs) :
    (∀ w, (callFunc f vs.toArray).run B.P w = .ok (.enter f vs.toArray) w) ∧ Calls B.P f vs.toArray w fun ev w' => ∃ v, ev = .returned v ∧ After B e N a σ K v w' := by
  obtain ⟨m, h⟩ := reachK_sound h
  obtain ⟨cargs, h, hl, hh⟩ := rn1L_sound h
  obtain ⟨Φc, h, hc1, hc2⟩ := subPK_sound h
  cases h with
  | mk hlt hp k =>
    rename_i pre res Φ' fn
    simp only [Bool.and_eq_true] at hlt
    obtain ⟨hlt, hpl⟩ := hlt
    obtain ⟨βc, hrn, mc, fin⟩ := afterK_sound k s (lentOk_spec hlt) hc1 hc2
    refine ⟨fun w => fn.call _ w, ?_⟩
    refine (fn.ok hp.h _ βc w vs (B.mono _ _ (frz_le s.mem) s.G) mc (relL_of hl hh (fun x y v hR hx => hR _ _ _ _ hrn hx) hargs)).mono ?_
    rintro ev w' ⟨v, sv, r', βc', Φ1, he, ⟨rfl, rfl⟩, hr, m', hle, hid⟩
    refine ⟨v, he, ?_⟩
    cases lent with
    | nil =>
      have hz : frz (fun i => memN i []) r β Φ w = r := frz_none
      exact fin m' hle hid (by rw [hz] at hle; exact hle) (Mem.le_refl r') (fun _ _ _ h => by cases h) hr (fun j ch hj => m'.chs _ _ hj)
    | cons x l =>
      have hpl : (SV.plainI sv && plainP Φ1) = true := hpl
      simp only [Bool.and_eq_true] at hpl
      refine fin (r2 := fun b => if b < w.heap.size then r b else r' b) m' hle hid (fun b o hb => ?_) (fun b o hb => ?_) (fun id ch b _ p1 _ p3 => ?_) (plainI_keep hr hpl.1) (fun j ch hj => ?_)
      · have := lt_of_get (s.mem.vis _ _ hb)
        simp only [this, if_true]; exact hb
      · simp only at hb
        split at hb
        · exact hle _ _ (frz_le s.mem _ _ hb)
        · exact hb
      · simp only [blk_lt s.mem p1 p3, if_true]
        exact s.mem.sep _ _ _ p1 p3
      · obtain ⟨τ, l, rfl, hτ⟩ := plainP_get hpl.2 hj
        exact own_plain_sat (m'.chs _ _ hj) hτ

/-- the same rows, lent or not -/
inductive RoEq : Chunk → Chunk → Prop
  | same (c) : RoEq c c
  | lend (τ) (l : List (Ty.T τ)) : RoEq (.own τ l) (.ro τ l)
  | back (τ) (l : List (Ty.T τ)) : RoEq (.ro τ l) (.own τ l)
theorem RoEq.blk {c c' : Chunk} (h : RoEq c c') (x : Value) : c'.blk x = c.blk x := by
  cases h with
  | same => rfl
  | lend τ l => cases x <;> first | rfl | (rename_i a _ _; cases a <;> rfl)
  | back τ l => cases x <;> first | rfl | (rename_i a _ _; cases a <;> rfl)
theorem RoEq.sat {c c' : Chunk} (h : RoEq c c') {r β w x} (hs : c.Sat r β w x) : c'.Sat r β w x := by
  cases h with
  | same => exact hs
  | lend τ l => cases hs with | own h => exact .ro h
  | back τ l => cases hs with | ro h => exact .own h
theorem sat_swap {B : Base} {e N r β σ Φ Φ2 a w} (s : Sat B e N r β σ Φ a w) (hsw : ∀ j c2, Phi.get Φ2 j = some c2 → ∃ c, Phi.get Φ j = some c ∧ RoEq c c2)
    (hkeep : ∀ id ch, Phi.get e.Φ id = some ch → ch.kind ≠ 0 → Phi.get Φ2 id = Phi.get Φ id) : Sat B e N r β σ Φ2 a w := by
  refine ⟨s.agree, ⟨s.mem.vis, fun j c2 h => ?_, fun j c2 b h hb => ?_, fun j j' c2 c2' b h h' hb hb' => ?_⟩, s.G, ⟨s.kept.le, s.kept.os, s.kept.tape, s.kept.output, s.kept.size, fun b hb => ?_, fun id ch h hk => ?_, s.kept.slt⟩, ?_, s.size⟩
  · obtain ⟨c, h1, h2⟩ := hsw j c2 h
    exact h2.sat (s.mem.chs _ _ h1)
  · obtain ⟨c, h1, h2⟩ := hsw j c2 h
    rw [h2.blk] at hb
    exact s.mem.sep _ _ _ h1 hb
  · obtain ⟨c, h1, h2⟩ := hsw j c2 h
    obtain ⟨c', h1', h2'⟩ := hsw j' c2' h'
    rw [h2.blk] at hb; rw [h2'.blk] at hb'
    exact s.mem.nod _ _ _ _ _ h1 h1' hb hb'
  · obtain ⟨x1, x2, x3⟩ := s.kept.block b hb
    refine ⟨x1, x2, fun j c2 h hb' => ?_⟩
    obtain ⟨c, g1, g2⟩ := hsw j c2 h
    rw [g2.blk] at hb'
    exact x3 j c g1 hb'
  · obtain ⟨q1, ch', q2, q3⟩ := s.kept.keep id ch h hk
    exact ⟨q1, ch', by rw [hkeep id ch h hk]; exact q2, q3⟩
  · obtain ⟨Ds, h1, h2, h3⟩ := s.defers
    refine ⟨Ds, h1, h2, fun D hD => ?_⟩
    obtain ⟨g1, g2, g3, g4⟩ := h3 D hD
    refine ⟨g1, g2, g3, fun j c2 h hb => ?_⟩
    obtain ⟨c, k1, k2⟩ := hsw j c2 h
    rw [k2.blk] at hb
    exact g4 j c k1 hb
theorem roK_sound : ∀ {ids : List Nat} {Φ : Phi} {K : Phi → Prop}, roK ids Φ K → ∃ Φr, K Φr ∧ (∀ j c2, Phi.get Φr j = some c2 → ∃ c, Phi.get Φ j = some c ∧ RoEq c c2) ∧ (∀ j, j ∉ ids → Phi.get Φr j = Phi.get Φ j) ∧ (∀ j ∈ ids, ∃ τ l, Phi.get Φ j = some (.own τ l) ∧ Phi.get Φr j = some (.ro τ l)) := by
  intro ids
  induction ids with
  | nil => intro Φ K h; exact ⟨Φ, h, fun j c2 hj => ⟨c2, hj, .same _⟩, fun _ _ => rfl, fun j hj => by cases hj⟩
  | cons i ids ih =>
    intro Φ K h
    simp only [roK] at h
    split at h
    · rename_i τ l hg
      obtain ⟨Φ1, h, hΦ⟩ := setPK_sound h (hasId_of hg)
      obtain ⟨Φr, hk, h1, h2, h3⟩ := ih h
      have hi1 : Phi.get Φ1 i = some (.ro τ l) := by rw [hΦ, Nat.beq_refl]; rfl
      have hni : i ∉ ids := fun hm => by
        obtain ⟨τ', l', g1, _⟩ := h3 i hm
        rw [hi1] at g1; cases g1
      have hne : ∀ j, j ≠ i → Phi.get Φ1 j = Phi.get Φ j := fun j hj => by rw [hΦ, nbeq_of (fun h => hj h.symm)]; rfl
      refine ⟨Φr, hk, fun j c2 hj => ?_, fun j hj => ?_, fun j hj => ?_⟩
      · by_cases hji : j = i
        · subst hji
          rw [h2 j hni, hi1] at hj
          cases hj
          exact ⟨_, hg, .lend τ l⟩
        · obtain ⟨c, g1, g2⟩ := h1 j c2 hj
          rw [hne j hji] at g1
          exact ⟨c, g1, g2⟩
      · simp only [List.mem_cons, not_or] at hj
        rw [h2 j hj.2, hne j hj.1]
      · by_cases hji : j = i
        · subst hji
          exact ⟨τ, l, hg, by rw [h2 j hni, hi1]⟩
        · rcases List.mem_cons.1 hj with h | hj
          · exact (hji h).elim
          · obtain ⟨τ', l', g1, g2⟩ := h3 j hj
            rw [hne j hji] at g1
            exact ⟨τ', l', g1, g2⟩
    · exact h.elim
    · exact h.elim
theorem unroK_sound : ∀ {ids : List Nat} {Φ : Phi} {K : Phi → Prop}, unroK ids Φ K → ∃ Φr, K Φr ∧ (∀ j c2, Phi.get Φr j = some c2 → ∃ c, Phi.get Φ j = some c ∧ RoEq c c2) ∧ (∀ j, j ∉ ids → Phi.get Φr j = Phi.get Φ j) := by
  intro ids
  induction ids with
  | nil => intro Φ K h; exact ⟨Φ, h, fun j c2 hj => ⟨c2, hj, .same _⟩, fun _ _ => rfl⟩
  | cons i ids ih =>
    intro Φ K h
    simp only [unroK] at h
    split at h
    · rename_i τ l hg
      obtain ⟨Φ1, h, hΦ⟩ := setPK_sound h (hasId_of hg)
      obtain ⟨Φr, hk, h1, h2⟩ := ih h
      have hi1 : Phi.get Φ1 i = some (.own τ l) := by rw [hΦ, Nat.beq_refl]; rfl
      have hne : ∀ j, j ≠ i → Phi.get Φ1 j = Phi.get Φ j := fun j hj => by rw [hΦ, nbeq_of (fun h => hj h.symm)]; rfl
      refine ⟨Φr, hk, fun j c2 hj => ?_, fun j hj => ?_⟩
      · obtain ⟨c, g1, g2⟩ := h1 j c2 hj
        by_cases hji : j = i
        · subst hji
          rw [hi1] at g1
          cases g1
          cases g2 with
          | same => exact ⟨_, hg, .back τ l⟩
          | lend => exact ⟨_, hg, .same _⟩
        · rw [hne j hji] at g1
          exact ⟨c, g1, g2⟩
      · simp only [List.mem_cons, not_or] at hj
        rw [h2 j hj.2, hne j hj.1]
    · exact h.elim
theorem callS_sound {B : Base} {e N a w f args σ Φ n} {K : EK} (h : CallS B f args σ Φ n K) {r β} (s : Sat B e N r β σ Φ a w) {vs : List Value} (hargs : RelL r β args vs) {o : Oper}
    (hrun : ∀ w, (execOp a.eval o).run B.P w = (callFunc f vs.toArray).run B.P w) : OpTo B.P a w o (After B e N a σ K) := by
  cases h with
  | q h =>
    obtain ⟨sv, hk, hop⟩ := call_sound h
    refine (hop (fun _ h => h) r β w vs a o s.G s.mem hargs hrun).mono ?_
    rintro v w' ⟨r', hr, hle, m', hid⟩
    exact ⟨sv, σ, Φ, n, r', β, hk, hr, s.step (s.agree.of fun k g sv hk => ⟨sv, hk, fun v hr => hr.mono hle⟩) m' hle hid, fun D hD => hD⟩
  | m h =>
    obtain ⟨ys, h, hl⟩ := lendK_q h
    obtain ⟨h1, h2⟩ := callMK_sound h s (hl _ r β w vs (fun id hi => memN_iff.2 hi) s.mem hargs)
    exact .call f vs.toArray (by rw [hrun]; exact h1 _) h2
  | h h =>
    obtain ⟨h1, h2⟩ := callMK_sound h s (by
      have hz : frz (fun i => memN i []) r β Φ w = r := frz_none
      rw [hz]; exact hargs)
    exact .call f vs.toArray (by rw [hrun]; exact h1 _) h2
  | b h =>
    obtain ⟨Φr, h, hr1, hr2, hr3⟩ := roK_sound h
    have hno : ∀ id ch, Phi.get e.Φ id = some ch → ch.kind ≠ 0 → id ∉ own1L args := fun id ch hi hk hm => by
      obtain ⟨τ, l, g1, _⟩ := hr3 id hm
      obtain ⟨_, ch', q2, q3⟩ := s.kept.keep id ch hi hk
      rw [g1] at q2; cases q2
      exact hk q3.symm
    have s1 := sat_swap s hr1 (fun id ch hi hk => hr2 id (hno id ch hi hk))
    obtain ⟨h1, h2⟩ := callMK_sound h s1 (by
      have hz : frz (fun i => memN i []) r β Φr w = r := frz_none
      rw [hz]; exact hargs)
    refine .call f vs.toArray (by rw [hrun]; exact h1 _) (h2.mono ?_)
    rintro ev w' ⟨v, he, sv, σ2, Φ2, n', r2, β2, k1, k2, k3, k4⟩
    obtain ⟨Φu, k1, u1, u2⟩ := unroK_sound k1
    exact ⟨v, he, sv, σ2, Φu, n', r2, β2, k1, k2, sat_swap k3 u1 (fun id ch hi hk => u2 id (hno id ch hi hk)), k4⟩
  | z h =>
    obtain ⟨xs', σ', Φ', r', h, s', hv', hD⟩ := frzK_sound h s hargs
    obtain ⟨h1, h2⟩ := callMK_sound h s' (by
      have hz : frz (fun i => memN i []) r' β Φ' w = r' := frz_none
      rw [hz]; exact hv')
    refine .call f vs.toArray (by rw [hrun]; exact h1 _) (h2.mono ?_)
    rintro ev w' ⟨v, he, sv, σ2, Φ2, n', r2, β2, k1, k2, k3, k4⟩
    exact ⟨v, he, sv, σ2, Φ2, n', r2, β2, k1, k2, k3, fun D h0 => k4 D (hD D h0)⟩
end Go.Vc

namespace Go.Vc
set_option autoImplicit false
set_option linter.unusedVariables false

theorem run_equal_nil {P : Program} {t e : TypeId} (hu : P.underlying t = some (.slice e)) (x : Option Addr) (n c : Nat) (w : World) : (Op.equal t (.slice x n c) (.slice none 0 0)).run P w = .ok x.isNone w := by
  unfold Op.equal Op.maxDepth
  rw [show (10000 : Nat) = 9999 + 1 from rfl, Op.equalIn]
  simp only [Sem.run_bind, run_underlying hu, Result.andThen_ok]
  cases x <;> rfl
theorem rows_slice {r w x bt sz rows} (h : RowsAt r w x bt sz rows) : ∃ a n c, x = .slice a n c ∧ (a = none → rows = []) := by
  rcases h with ⟨a, rfl, rfl⟩ | ⟨b, off, cap, c, T, fr, rfl, _⟩
  · exact ⟨a, 0, 0, rfl, fun _ => rfl⟩
  · exact ⟨_, _, _, rfl, fun h => by cases h⟩
theorem lits_slice {r β sz rows x} (h : Rel r β (.lits sz rows) x) : ∃ a n c, x = .slice a n c ∧ (a = none → rows = []) := by
  cases h with
  | litsE => exact ⟨_, _, _, rfl, fun _ => rfl⟩
  | lits => exact ⟨_, _, _, rfl, fun h => by cases h⟩
theorem nilK_sound {P : Program} {Φ t x} {K : Bool → Prop} (h : nilK P Φ t x K) {r β w v} (m : MemSat r β Φ w) (hx : Rel r β x v) :
    ∃ b, K b ∧ (Op.equal t v (.slice none 0 0)).run P w = .ok b w ∧ ∃ a n c, v = .slice a n c := by
  unfold nilK at h
  split at h
  · rename_i e hu
    split at h
    · cases hx
      exact ⟨true, h, run_equal_nil hu none 0 0 w, _, _, _, rfl⟩
    · cases hx with
      | rd hx =>
        obtain ⟨a, n, c, rfl, ha⟩ := lits_slice hx
        exact ⟨a.isNone, h _ (fun hb => by
          have := ha (by simpa using hb)
          simpa using this), run_equal_nil hu a n c w, _, _, _, rfl⟩
    · split at h
      · rename_i id τ l hg
        have hs := m.rowsR hg
        cases hs with
        | own hrows =>
          obtain ⟨a, n, c, hv, ha⟩ := rows_slice hrows
          cases hx
          rw [hv]
          exact ⟨a.isNone, h _ (fun hb => by
            have := ha (by simpa using hb)
            simpa using this), run_equal_nil hu a n c w, _, _, _, rfl⟩
      · exact h.elim
    · exact h.elim
  · exact h.elim

theorem guard_slice {P : Program} {op : BinOp} {t : TypeId} {x y : Operand} {a a' : Option Addr} {n c n' c' : Nat} {w : World} : (eqGuard op t x y (.slice a n c) (.slice a' n' c')).run P w = .ok () w := by
  unfold eqGuard; split <;> rfl
theorem storeFK_sound {B : Base} {e N r β σ Φ a w n t} {p x : SV} {vp vx : Value} {K : EK} (h : storeFK B.P t p x σ Φ n K) (s : Sat B e N r β σ Φ a w) (hp : Rel r β p vp) (hx : Rel r β x vx) :
    ∃ sv σ' Φ' r' w', K sv σ' Φ' n ∧ (Instr.storeAt t vp vx).run B.P w = .ok () w' ∧ sv = .und ∧ Sat B e N r' β σ' Φ' a w' ∧ (∀ D, GdIn D σ → GdIn D σ') := by
  unfold storeFK at h
  split at h
  · obtain ⟨xs', σ', Φ', r', h, s', hv, hD⟩ := frzK_sound h s (vs := [vp, vx]) (RelL.cons hp (RelL.cons hx ⟨rfl, fun i sv v h => by simp at h⟩))
    split at h
    · rename_i p' x'
      obtain ⟨sv, Φ2, w', hk, hrun, he, s2⟩ := storeK_sound h s' (hv.2 0 _ _ rfl rfl) (hv.2 1 _ _ rfl rfl)
      exact ⟨sv, _, _, _, _, hk, hrun, he, s2, hD⟩
    · exact h.elim
  · obtain ⟨sv, Φ2, w', hk, hrun, he, s2⟩ := storeK_sound h s hp hx
    exact ⟨sv, _, _, _, _, hk, hrun, he, s2, fun _ h => h⟩
end Go.Vc

namespace Go.Vc
set_option autoImplicit false
set_option linter.unusedVariables false
set_option linter.unusedSimpArgs false

theorem makeMapK_sound {B : Base} {e N r β σ Φ a w n t} {K : EK} (h : makeMapK B t σ Φ n K) (st : Sat B e N r β σ Φ a w) :
    ∃ sv Φ' n' v w' β', K sv σ Φ' n' ∧ (∀ rv, (rv = none ∨ ∃ k i, rv = some (Value.int k i)) → (Instr.makeMap t rv).run B.P w = .ok v w') ∧ Rel r β' sv v ∧ Sat B e N r β' σ Φ' a w' := by
  unfold makeMapK at h
  split at h
  · rename_i kt el hu
    split at h
    · rename_i τ hty
      have key : ∃ κ, newChK n (.mp κ τ []) (.mref n) σ Φ K := by
        unfold keyTyOf at h
        split at h
        · exact ⟨_, h⟩
        · exact ⟨_, h⟩
        · exact ⟨_, h⟩
        · exact h.elim
      obtain ⟨κ, h⟩ := key
      obtain ⟨sv, σ', Φ', n', hk, rfl, β', hr, hs⟩ := newChK_sound h st (Grows.alloc w (.map #[] 0)) (v := .map (some w.heap.size))
        (fun b hb => by simp [Chunk.blk] at hb; omega)
        (.mp rfl heap_alloc_eq rfl (fun i k v e q => by simp at q) (fun i k v e q => by simp at q) (fun i e q => by simp at q) (by simp)) (.mref (setB_self _ _ _))
      refine ⟨sv, Φ', n', _, _, β', hk, fun rv hrv => ?_, hr, hs⟩
      rcases hrv with rfl | ⟨k, i, rfl⟩
      · simp [Instr.makeMap]
      · simp [Instr.makeMap, run_underlying hu, asInt, asIntOf]
    · exact h.elim
  · exact h.elim

theorem mapSetK_sound {B : Base} {e N r β σ Φ a w n t} {m k x : SV} {vm vk vx : Value} {K : EK} (h : mapSetK B t m k x σ Φ n K) (s : Sat B e N r β σ Φ a w) (hm : Rel r β m vm) (hk : Rel r β k vk) (hx : Rel r β x vx) :
    ∃ sv Φ' w', K sv σ Φ' n ∧ (Instr.mapUpdate t vm vk vx).run B.P w = .ok () w' ∧ sv = .und ∧ Sat B e N r β σ Φ' a w' := by
  unfold mapSetK at h
  split at h
  · rename_i kt el id hu
    split at h
    · rename_i κ τ l hg
      cases hko : (keyTyOk B kt κ && x.one) with
      | false => rw [hko] at h; exact h.elim
      | true =>
        rw [hko] at h
        simp only [Bool.and_eq_true] at hko
        have hKO := keyTyOk_ok hko.1
        obtain ⟨key, h, hkey⟩ := decKeyK_sound h
        obtain ⟨av, h, hent⟩ := dec1K_sound h
        obtain ⟨Φ', hK, hΦ⟩ := setPK_sound h (hasId_of hg)
        obtain rfl := hkey _ _ _ hk
        cases hm with
        | mref hβ =>
        rename_i b
        have hs := s.mem.chs _ _ hg
        cases hs with
        | mp hxb hw hl hks hvs hb hn =>
        rename_i b' es clock
        rw [hβ] at hxb
        obtain rfl : b = b' := by simpa using hxb
        have hlt := lt_of_heap hw
        obtain ⟨sv1, henc⟩ : ∃ sv1, τ.enc av = [sv1] := by
          have := hent.1
          exact List.length_eq_one_iff.1 (by rw [this]; rfl)
        rw [henc] at hent
        have hnew : ∃ sv, τ.enc av = [sv] ∧ sv.one = true ∧ Rel r β0 sv vx :=
          ⟨sv1, henc, enc_one τ av 0 sv1 (by rw [henc]; rfl), ((hent.2 0 x sv1 rfl rfl).1 _ _ _ hx).pure (enc_pure τ av 0 sv1 (by rw [henc]; rfl)) _⟩
        have hT : ∀ o, Turns w { w with heap := w.heap.setIfInBounds b o } b := fun o => ⟨rfl, rfl, rfl, by simp, fun b' hb' => by
          show (w.heap.setIfInBounds b o)[b']? = _
          rw [Array.getElem?_setIfInBounds_ne (Ne.symm hb')]⟩
        have hat : ∀ o, ({ w with heap := w.heap.setIfInBounds b o } : World).heap[b]? = some o := fun o => by
          show (w.heap.setIfInBounds b o)[b]? = _
          rw [Array.getElem?_setIfInBounds_self_of_lt hlt]
        rcases hKO.find key l es.toList (by simpa using hl) (fun i k' v e q1 q2 => hks i k' v e q1 (by simpa using q2)) with ⟨a1, a2, a3, _⟩ | ⟨j, v, e1, a1, a2, a3, a4, a5, _⟩
        · rw [a3] at hΦ
          refine ⟨_, Φ', { w with heap := w.heap.setIfInBounds b (.map (es.push { key := κ.val key, val := vx, born := clock }) (clock + 1)) }, hK, ?_, rfl,
            sat_upd s hg hΦ (hT _) (by rw [hβ]; rfl) (by rw [hβ]; rfl) ?_ rfl⟩
          · simp only [Instr.mapUpdate, Sem.run_bind, run_underlying hu, Result.andThen_ok, MapKept.run_getObj_map hw, hKO.check, a2, MapKept.run_setObj_map _ hw]
          · refine .mp hβ (hat _) (by simp [hl]) (fun i k v e q1 q2 => ?_) (fun i k v e q1 q2 => ?_) (fun i e q => ?_) ?_
            · rw [Array.getElem?_push] at q2
              rw [List.getElem?_append] at q1
              by_cases hi : i < l.length
              · rw [if_pos hi] at q1; rw [if_neg (by omega)] at q2; exact hks i k v e q1 q2
              · rw [if_neg hi] at q1
                have hi2 : i - l.length = 0 := by have := lt_len q1; simp at this; omega
                rw [hi2] at q1
                rw [if_pos (by omega)] at q2
                simp at q1 q2
                rw [← q2, ← q1.1]
            · rw [Array.getElem?_push] at q2
              rw [List.getElem?_append] at q1
              by_cases hi : i < l.length
              · rw [if_pos hi] at q1; rw [if_neg (by omega)] at q2; exact hvs i k v e q1 q2
              · rw [if_neg hi] at q1
                have hi2 : i - l.length = 0 := by have := lt_len q1; simp at this; omega
                rw [hi2] at q1
                rw [if_pos (by omega)] at q2
                simp at q1 q2
                rw [← q2, ← q1.2]
                exact hnew
            · rw [Array.getElem?_push] at q
              split at q
              · simp at q; rw [← q]; exact Nat.lt_succ_self _
              · exact Nat.lt_succ_of_lt (hb i e q)
            · rw [Array.toList_push, List.pairwise_append]
              refine ⟨hn, by simp, fun x hx' y hy => ?_⟩
              simp at hy
              subst hy
              obtain ⟨i, hi, rfl⟩ := List.getElem_of_mem hx'
              have := hb i es[i] (by simp)
              simp
              simp at this hi ⊢
              omega
        · rw [a5] at hΦ
          refine ⟨_, Φ', { w with heap := w.heap.setIfInBounds b (.map (es.modify j fun e => { e with key := κ.val key, val := vx }) clock) }, hK, ?_, rfl,
            sat_upd s hg hΦ (hT _) (by rw [hβ]; rfl) (by rw [hβ]; rfl) ?_ rfl⟩
          · have a3' : es[j]? = some e1 := by simpa using a3
            have hkk : e1.key = κ.val key := hks j key v e1 a1 a3'
            simp only [Instr.mapUpdate, Sem.run_bind, run_underlying hu, Result.andThen_ok, MapKept.run_getObj_map hw, hKO.check, a4, a3', Option.map_some, Option.getD_some, hkk, Instr.keyThatStays, hKO.bits, if_true, Sem.run_pure, MapKept.run_setObj_map _ hw]
          · have hmod : ∀ (i : Nat) e, (es.modify j fun e => { e with key := κ.val key, val := vx })[i]? = some e → ∃ e0, es[i]? = some e0 ∧ e.born = e0.born ∧ (i = j → e.key = κ.val key ∧ e.val = vx) ∧ (i ≠ j → e = e0) := by
              intro i e q
              rw [Array.getElem?_modify] at q
              by_cases hij : j = i
              · subst hij
                rw [if_pos rfl] at q
                cases he : es[j]? with
                | none => rw [he] at q; cases q
                | some e0 => rw [he] at q; simp at q; subst q; exact ⟨e0, rfl, rfl, fun _ => ⟨rfl, rfl⟩, fun h => (h rfl).elim⟩
              · rw [if_neg hij] at q
                exact ⟨e, q, rfl, fun h => (hij h.symm).elim, fun _ => rfl⟩
            have hset : ∀ (i : Nat) k v, (l.set j (key, av))[i]? = some (k, v) → (i = j ∧ k = key ∧ v = av) ∨ (i ≠ j ∧ l[i]? = some (k, v)) := by
              intro i k v q
              rw [List.getElem?_set] at q
              by_cases hij : j = i
              · subst hij
                rw [if_pos rfl] at q
                split at q
                · simp at q; exact .inl ⟨rfl, q.1.symm, q.2.symm⟩
                · cases q
              · rw [if_neg hij] at q; exact .inr ⟨fun h => hij h.symm, q⟩
            refine .mp hβ (hat _) (by simp [hl]) (fun i k v e q1 q2 => ?_) (fun i k v e q1 q2 => ?_) (fun i e q => ?_) ?_
            · obtain ⟨e0, p1, p2, p3, p4⟩ := hmod i e q2
              rcases hset i k v q1 with ⟨rfl, rfl, rfl⟩ | ⟨hij, q1⟩
              · exact (p3 rfl).1
              · rw [p4 hij]; exact hks i k v e0 q1 p1
            · obtain ⟨e0, p1, p2, p3, p4⟩ := hmod i e q2
              rcases hset i k v q1 with ⟨rfl, rfl, rfl⟩ | ⟨hij, q1⟩
              · rw [(p3 rfl).2]; exact hnew
              · rw [p4 hij]; exact hvs i k v e0 q1 p1
            · obtain ⟨e0, p1, p2, _⟩ := hmod i e q
              rw [p2]; exact hb i e0 p1
            · have hmap : (es.modify j fun e => { e with key := κ.val key, val := vx }).toList.map (·.born) = es.toList.map (·.born) := by
                apply List.ext_getElem?
                intro i
                simp only [List.getElem?_map, Array.getElem?_toList, Array.getElem?_modify]
                by_cases hij : j = i
                · subst hij; cases es[j]? <;> simp
                · rw [if_neg hij]
              have h1 : (es.toList.map (·.born)).Pairwise (· ≠ ·) := List.pairwise_map.2 hn
              rw [← hmap] at h1
              exact List.pairwise_map.1 h1
    · exact h.elim
  · exact h.elim

theorem erase_toList {es : Array MapEntry} {j : Nat} : (es.eraseIdxIfInBounds j).toList = es.toList.eraseIdx j := by
  unfold Array.eraseIdxIfInBounds
  split
  · simp
  · rename_i h; rw [List.eraseIdx_of_length_le (by simpa using h)]
theorem mapDelK_sound {B : Base} {e N r β σ Φ a w n t} {m k : SV} {vm vk : Value} {K : EK} (h : mapDelK B t m k σ Φ n K) (s : Sat B e N r β σ Φ a w) (hm : Rel r β m vm) (hk : Rel r β k vk) (tk : TypeId) (ty : TypeId) :
    ∃ sv Φ' v w', K sv σ Φ' n ∧ (Builtin.delete_ #[t, tk] ty #[vm, vk]).run B.P w = .ok v w' ∧ sv = .und ∧ Sat B e N r β σ Φ' a w' := by
  unfold mapDelK at h
  split at h
  · rename_i kt el id hu
    split at h
    · rename_i κ τ l hg
      cases hko : keyTyOk B kt κ with
      | false => rw [hko] at h; exact h.elim
      | true =>
        rw [hko] at h
        have hK := keyTyOk_ok hko
        obtain ⟨key, h, hkey⟩ := decKeyK_sound h
        obtain ⟨Φ', hK', hΦ⟩ := setPK_sound h (hasId_of hg)
        obtain rfl := hkey _ _ _ hk
        cases hm with
        | mref hβ =>
        rename_i b
        have hs := s.mem.chs _ _ hg
        cases hs with
        | mp hxb hw hl hks hvs hb hn =>
        rename_i b' es clock
        rw [hβ] at hxb
        obtain rfl : b = b' := by simpa using hxb
        have hlt := lt_of_heap hw
        have hT : ∀ o, Turns w { w with heap := w.heap.setIfInBounds b o } b := fun o => ⟨rfl, rfl, rfl, by simp, fun b' hb' => by
          show (w.heap.setIfInBounds b o)[b']? = _
          rw [Array.getElem?_setIfInBounds_ne (Ne.symm hb')]⟩
        have hat : ∀ o, ({ w with heap := w.heap.setIfInBounds b o } : World).heap[b]? = some o := fun o => by
          show (w.heap.setIfInBounds b o)[b]? = _
          rw [Array.getElem?_setIfInBounds_self_of_lt hlt]
        rcases hK.find key l es.toList (by simpa using hl) (fun i k' v e q1 q2 => hks i k' v e q1 (by simpa using q2)) with ⟨a1, a2, _, a3⟩ | ⟨j, v, e1, a1, a2, a3, a4, _, a5⟩
        · rw [a3] at hΦ
          refine ⟨_, Φ', .tuple #[], { w with heap := w.heap.setIfInBounds b (.map es clock) }, hK', ?_, rfl,
            sat_upd s hg hΦ (hT _) (by first | (rw [hβ]; done) | (rw [hβ]; rfl)) (by first | (rw [hβ]; done) | (rw [hβ]; rfl)) (.mp hβ (hat _) hl hks hvs hb hn) rfl⟩
          show (Builtin.delete_ #[t, tk] ty #[.map (some b), κ.val key]).run B.P w = _
          simp [Builtin.delete_, run_underlying hu, MapKept.run_getObj_map hw, hK.check, a2, MapKept.run_setObj_map _ hw]
        · rw [a5] at hΦ
          refine ⟨_, Φ', .tuple #[], { w with heap := w.heap.setIfInBounds b (.map (es.eraseIdxIfInBounds j) clock) }, hK', ?_, rfl,
            sat_upd s hg hΦ (hT _) (by rw [hβ]; rfl) (by rw [hβ]; rfl) ?_ rfl⟩
          · show (Builtin.delete_ #[t, tk] ty #[.map (some b), κ.val key]).run B.P w = _
            simp [Builtin.delete_, run_underlying hu, MapKept.run_getObj_map hw, hK.check, a4, MapKept.run_setObj_map _ hw]
          · have hget : ∀ (i : Nat) e, (es.eraseIdxIfInBounds j)[i]? = some e → ∃ i' : Nat, es[i']? = some e ∧ ∀ x, (l.eraseIdx j)[i]? = some x → l[i']? = some x := by
              intro i e q
              rw [← Array.getElem?_toList, erase_toList, List.getElem?_eraseIdx] at q
              by_cases hij : i < j
              · rw [if_pos hij] at q
                exact ⟨i, by simpa using q, fun x hx => by rw [List.getElem?_eraseIdx, if_pos hij] at hx; exact hx⟩
              · rw [if_neg hij] at q
                exact ⟨i + 1, by simpa using q, fun x hx => by rw [List.getElem?_eraseIdx, if_neg hij] at hx; exact hx⟩
            have hjl := lt_len a1
            refine .mp hβ (hat _) ?_ (fun i k v e q1 q2 => ?_) (fun i k v e q1 q2 => ?_) (fun i e q => ?_) ?_
            · rw [← Array.length_toList, erase_toList, List.length_eraseIdx, List.length_eraseIdx]
              simp [hl]
            · obtain ⟨i', p1, p2⟩ := hget i e q2
              exact hks i' k v e (p2 _ q1) p1
            · obtain ⟨i', p1, p2⟩ := hget i e q2
              exact hvs i' k v e (p2 _ q1) p1
            · obtain ⟨i', p1, _⟩ := hget i e q
              exact hb i' e p1
            · rw [erase_toList]
              exact hn.sublist (List.eraseIdx_sublist ..)
    · exact h.elim
  · exact h.elim
theorem mapLenK_sound {B : Base} {e N r β σ Φ a w n t} {m : SV} {vm : Value} {K : EK} (h : mapLenK B t m σ Φ n K) (s : Sat B e N r β σ Φ a w) (hm : Rel r β m vm) (ty : TypeId) :
    ∃ sv v, K sv σ Φ n ∧ (Builtin.len_ #[t] ty #[vm]).run B.P w = .ok v w ∧ Rel r β sv v := by
  unfold mapLenK at h
  split at h
  · rename_i kt el id hu
    split at h
    · rename_i κ τ l hg
      obtain ⟨⟨hle⟩, hK⟩ := h
      cases hm with
      | mref hβ =>
      rename_i b
      have hs := s.mem.chs _ _ hg
      cases hs with
      | mp hxb hw hl hks hvs hb hn =>
      rename_i b' es clock
      rw [hβ] at hxb
      obtain rfl : b = b' := by simpa using hxb
      refine ⟨_, .int .i64 l.length, hK, ?_, .int⟩
      simp [Builtin.len_, run_underlying hu, MapKept.run_getObj_map hw, hl, goInt]
    · exact h.elim
  · exact h.elim

/-- bytes, as they lie -/
inductive BytesAt (w : World) (v : Value) (l : List UInt8) : Prop
  | nil (a : Option Addr) (cap : Nat) (hv : v = .slice a 0 cap) (hl : l = [])
  | row (b off cap : Nat) (c : Array Value) (T : TypeId) (fr : Nat × Nat) (hv : v = .slice (some ⟨b, off, none⟩) l.length cap) (hw : w.heap[b]? = some (.cells c T fr)) (hc : ∀ (j : Nat) x, l[j]? = some x → c[off + j]? = some (.int .u8 x.toNat))
theorem bytes_cells {r : Mem} {l : List UInt8} {c : Array Value} {off : Nat} (hlen : off + l.length ≤ c.size)
    (h : ∀ (i : Nat) (row : List SV) (j : Nat) (sv : SV) (v : Value), (l.map (Ty.enc .byte))[i]? = some row → row[j]? = some sv → c[off + i * 1 + j]? = some v → Rel r β0 sv v) :
    ∀ (j : Nat) x, l[j]? = some x → c[off + j]? = some (.int .u8 x.toNat) := by
  intro j x hj
  have hjl := lt_len hj
  have hin : off + j < c.size := by omega
  have hv : c[off + j * 1 + 0]? = some c[off + j] := by simp [hin]
  have := h j [.int .u8 x.toNat] 0 _ _ (by rw [List.getElem?_map, hj]; rfl) rfl hv
  rw [Array.getElem?_eq_getElem hin]
  generalize c[off + j] = u at this
  cases this; rfl
theorem rowsAt_bytes {r w x bt} {l : List UInt8} (h : RowsAt r w x bt 1 (l.map (Ty.enc .byte))) : BytesAt w x l ∧ l.length ≤ 9223372036854775807 := by
  rcases h with ⟨a, rfl, hl⟩ | ⟨b, off, cap, c, T, fr, rfl, h1, h2, h3, h4, h5, h6, h7, h8, h9⟩
  · have : l = [] := by simpa using hl
    subst this
    exact ⟨.nil a 0 rfl rfl, by simp⟩
  · rw [List.length_map] at h5
    refine ⟨.row b off cap c T fr (by rw [List.length_map]) h2 (bytes_cells (by omega) h9), by omega⟩
theorem lits_bytes {r β w x} {l : List UInt8} (hvis : ∀ b o, r b = some o → w.heap[b]? = some o) (h : Rel r β (.lits 1 (l.map (Ty.enc .byte))) x) : BytesAt w x l ∧ l.length ≤ 9223372036854775807 := by
  generalize hm : l.map (Ty.enc .byte) = rows at h
  cases h with
  | litsE =>
    have : l = [] := by simpa using hm
    subst this
    exact ⟨.nil _ _ rfl rfl, by simp⟩
  | lits hb hn hcap hrow ho hc hr =>
    subst hm
    rw [List.length_map] at *
    exact ⟨.row _ _ _ _ _ _ rfl (hvis _ _ hb) (bytes_cells (by omega) hr), hn⟩
theorem run_bytes_back {P : Program} {w : World} {s d e : TypeId} {v : Value} {l : List UInt8} (hs : P.underlying s = some (.slice e)) (he : P.underlying e = some (.int .u8)) (hd : P.underlying d = some .string) (h : BytesAt w v l) :
    (Go.convert s d v).run P w = .ok (.string ⟨l.toArray⟩) w := by
  cases h with
  | nil a cap hv hl =>
    subst hv; subst hl
    cases a with
    | none => rw [run_convert_bytes_string w s d e none 0 cap hs he hd]; rfl
    | some a => exact run_convert_bytes_back w s d e a cap [] hs he hd (fun j hj => by simp at hj)
  | row b off cap c T fr hv hw hc =>
    subst hv
    refine run_convert_bytes_back w s d e ⟨b, off, none⟩ cap l hs he hd fun j hj => ?_
    rw [add_mk, cell_of_block hw]
    exact hc j l[j] (List.getElem?_eq_getElem hj)

theorem convBK_sound {B : Base} {e N r β σ Φ a w n s d} {x : SV} {vx : Value} {K : EK} (h : convBK B s d x σ Φ n K) (st : Sat B e N r β σ Φ a w) (hx : Rel r β x vx) :
    ∃ sv Φ' n' v w' β', K sv σ Φ' n' ∧ (Go.convert s d vx).run B.P w = .ok v w' ∧ Rel r β' sv v ∧ Sat B e N r β' σ Φ' a w' := by
  unfold convBK at h
  split at h
  · rename_i el l hs hd
    split at h
    · rename_i he
      cases h55 : Nat.beq el 5 with
      | false => rw [h55] at h; exact h.elim
      | true =>
      rw [h55] at h
      simp only [cond_true] at h
      have h5 : el = 5 := beq_of h55
      cases hx with
      | str hl =>
      have hz : (ByteArray.mk l.toArray).size = l.length := by simp [ByteArray.size]
      have hge : l.length ≤ grownCap w l.length 0 el := grownCap_ge w _ _ _
      have hle : grownCap w l.length 0 el ≤ 9223372036854775807 := grownCap_le_maxLen w _ _ _ (by show l.length ≤ 2 ^ 63 - 1; omega)
      have hrun := run_bytes_of_string (P := B.P) w s d el ⟨l.toArray⟩ hs hd he
      rw [hz] at hrun
      generalize hcap : grownCap w l.length 0 el = cap at hrun hge hle
      have hcz : (bytesRow ⟨l.toArray⟩ cap).size = cap := by
        unfold bytesRow
        have : (ByteArray.mk l.toArray).data.size = l.length := by simp
        simp [hz]; omega
      have hg : Grows w (w.drew.alloc (.cells (bytesRow ⟨l.toArray⟩ cap) el ((bytesRow ⟨l.toArray⟩ cap).size, (bytesRow ⟨l.toArray⟩ cap).size + 1))) :=
        ⟨rfl, rfl, rfl, by show w.heap.size ≤ (w.heap.push _).size; simp, fun b hb => by show (w.heap.push _)[b]? = _; rw [Array.getElem?_push, if_neg (by omega)]⟩
      have hrows : RowsAt r (w.drew.alloc (.cells (bytesRow ⟨l.toArray⟩ cap) el ((bytesRow ⟨l.toArray⟩ cap).size, (bytesRow ⟨l.toArray⟩ cap).size + 1))) (.slice (some ⟨w.heap.size, 0, none⟩) l.length cap) true 1 (l.map (Ty.enc .byte)) := by
        by_cases h0 : cap = 0
        · have : l = [] := List.length_eq_zero_iff.1 (by omega)
          subst this
          exact .inl ⟨_, by rw [h0]; rfl, rfl⟩
        · refine .inr ⟨w.heap.size, 0, cap, _, el, _, by rw [List.length_map], h0, ?_, ⟨fun _ => ⟨h5, rfl⟩, .inr ⟨rfl, rfl⟩⟩, hle, by rw [List.length_map]; exact hge, by rw [hcz]; omega, fun i row h => ?_, fun i row j sv h1 h2 => (by
              obtain ⟨y, hy, rfl⟩ : ∃ y, l[i]? = some y ∧ Ty.enc .byte y = row := by
                rw [List.getElem?_map] at h1
                cases hq : l[i]? with
                | none => rw [hq] at h1; cases h1
                | some y => rw [hq] at h1; exact ⟨y, rfl, by simpa using h1⟩
              exact enc_one .byte y j sv h2), fun i row j sv v h1 h2 h3 => ?_⟩
          · show (w.heap.push _)[w.heap.size]? = _
            simp
          · rw [List.getElem?_map] at h
            cases hq : l[i]? with
            | none => rw [hq] at h; cases h
            | some y => rw [hq] at h; simp at h; rw [← h]; rfl
          · rw [List.getElem?_map] at h1
            cases hq : l[i]? with
            | none => rw [hq] at h1; cases h1
            | some y =>
              rw [hq] at h1
              simp at h1
              subst h1
              cases j with
              | succ j => simp [Ty.enc] at h2
              | zero =>
                simp [Ty.enc] at h2
                subst h2
                have hil := lt_len hq
                have := bytesRow_at ⟨l.toArray⟩ cap i (by simpa using hil)
                have e : 0 + i * 1 + 0 = i := by omega
                rw [e, this] at h3
                simp at h3
                subst h3
                have hy : l[i] = y := by rw [List.getElem?_eq_getElem hil] at hq; simpa using hq
                rw [hy]
                exact .int
      obtain ⟨sv, σ', Φ', n', hk, rfl, β', hr, hsat⟩ := newChK_sound h st hg (v := .slice (some ⟨w.heap.size, 0, none⟩) l.length cap)
        (fun b hb => by
          simp only [Chunk.blk] at hb
          cases hq : Nat.beq cap 0 with
          | true => rw [hq] at hb; cases hb
          | false => rw [hq] at hb; simp at hb; omega) (.own hrows) (own_rel rfl)
      exact ⟨sv, Φ', n', _, _, β', hk, hrun, hr, hsat⟩
    · exact h.elim
  · rename_i el id hs hd
    split at h
    · rename_i τ l he hg
      obtain ⟨rfl, h⟩ := castK_sound h
      have hs' := st.mem.rowsR hg
      cases hs' with
      | own hrows =>
        obtain ⟨h1, h2⟩ := rowsAt_bytes hrows
        cases hx
        exact ⟨_, Φ, n, _, w, β, h, run_bytes_back hs he hd h1, .str h2, st⟩
    · exact h.elim
  · rename_i el τ l hs hd
    split at h
    · rename_i he
      obtain ⟨rfl, h⟩ := castK_sound h
      cases hx with
      | rd hx =>
        obtain ⟨h1, h2⟩ := lits_bytes st.mem.vis hx
        exact ⟨_, Φ, n, _, w, β, h, run_bytes_back hs he hd h1, .str h2, st⟩
    · exact h.elim
  · rename_i el hs hd
    split at h
    · rename_i he
      cases hx
      exact ⟨_, Φ, n, _, w, β, h, run_bytes_back hs he hd (.nil none 0 rfl rfl), .str (by simp), st⟩
    · exact h.elim
  · rename_i e id off hs hd
    split at h
    · rename_i T cs hg
      cases hc : (Nat.blt off (len cs) && !Nat.beq (sizeT B.P e) 0) with
      | false => rw [hc] at h; exact h.elim
      | true =>
      rw [hc] at h
      simp only [Bool.and_eq_true, Bool.not_eq_true'] at hc
      obtain ⟨hc1, hc2⟩ := hc
      have hlt : off < cs.length := by rw [len_eq] at hc1; exact Nat.le_of_ble_eq_true hc1
      cases hx with
      | loc hβ =>
        have hm := st.mem.chs _ _ hg
        cases hm with
        | box hxb hw hl hc0 hT =>
          rename_i b b' c T'
          rw [hβ] at hxb
          obtain rfl : b = b' := by simpa using hxb
          obtain ⟨i, hi⟩ : ∃ i, B.P.info? e = some i := by
            unfold sizeT at hc2
            cases hq : B.P.info? e with
            | none => rw [hq] at hc2; cases hc2
            | some i => exact ⟨i, rfl⟩
          have hi0 : i.size ≠ 0 := by
            rw [sizeT_run hi] at hc2
            intro h0; rw [h0] at hc2; cases hc2
          refine ⟨_, Φ, n, _, w, β, h, Lib.run_to_unsafe w ⟨b, off, none⟩ hs hd hi hi0 (e := T') (cells := c.size) (by simp [World.shape?, hw]) (by rw [hl]; exact hlt), .loc hβ, st⟩
    · exact h.elim
  · rename_i u id off hs hd
    split at h
    · rename_i T cs hg
      split at h
      · rename_i i hi
        obtain ⟨hob, h⟩ := h
        have hob := hob.h
        cases hx with
        | loc hβ =>
          have hm := st.mem.chs _ _ hg
          cases hm with
          | box hxb hw hl hc0 hT =>
            rename_i b b' c T'
            rw [hβ] at hxb
            obtain rfl : b = b' := by simpa using hxb
            obtain rfl : T' = T := hT T rfl
            refine ⟨_, Φ, n, _, w, β, h, Lib.run_from_unsafe w ⟨b, off, none⟩ hs hd hi (e := T') (cells := c.size) (by simp [World.shape?, hw]) (by rw [len_eq, ← hl] at hob; exact hob), .loc hβ, st⟩
      · exact h.elim
    · exact h.elim
  · obtain ⟨sv, hk, hr⟩ := evConv_sound (P := B.P) h
    obtain ⟨v, hv, hw⟩ := hr (fun _ h => h) r β _ hx
    exact ⟨sv, Φ, n, v, w, β, hk, hw w, hv, st⟩
end Go.Vc

namespace Go.Vc
set_option autoImplicit false
set_option linter.unusedVariables false
set_option linter.unusedSimpArgs false

theorem cutK_sound {B : Base} {e N r β σ Φ a w n t id hi} {vh : Value} {K : EK} (h : cutK B t id hi σ Φ n K) (st : Sat B e N r β σ Φ a w) (hh : Rel r β hi vh) :
    ∃ sv σ' Φ' n' v β', K sv σ' Φ' n' ∧ (Instr.sliceAt t (β id) none (some vh) none).run B.P w = .ok v w ∧ Rel r β' sv v ∧ Sat B e N r β' σ' Φ' a w ∧ (∀ D, GdIn D σ → GdIn D σ') := by
  unfold cutK at h
  split at h
  · rename_i el τ l k b hu hg
    cases hz : szOk B.P el τ.size with
    | false => rw [hz] at h; exact h.elim
    | true =>
    rw [hz] at h
    obtain ⟨hts, hi⟩ := szOk_spec hz
    obtain ⟨hob, h⟩ := h
    obtain ⟨hb0, hb1⟩ := hob.h
    obtain ⟨σ', h, hσ⟩ := staleE_sound h
    obtain ⟨Φ1, h, hΦ1⟩ := staleP_sound h
    obtain ⟨c1, hc1'⟩ := (hΦ1 id).2 _ hg
    obtain ⟨Φ', hk, hΦ⟩ := setPK_sound h (hasId_of hc1')
    cases hh
    obtain ⟨i, hi⟩ := Option.ne_none_iff_exists'.1 hi
    have hs := st.mem.rows hg
    cases hs with
    | own hrs =>
      -- the slice's value
      have key : ∃ a0 cap, β id = .slice a0 l.length cap ∧ l.length ≤ cap ∧ RowsAt r w (.slice a0 b.toNat cap) τ.isB τ.size ((l.take b.toNat).map τ.enc) ∧ (∀ bb, blkOf (.slice a0 b.toNat cap) = some bb → blkOf (β id) = some bb) ∧ a0.map (·.add 0) = a0 := by
        rcases hrs with ⟨a0, he, hl⟩ | ⟨bb, off, cap, c, T, fr, he, hc0, hw, hfr, hm, hcap, hsz, hrow, hone, hrr⟩
        · have hl : l = [] := by simpa using hl
          subst hl
          have hb : b.toNat = 0 := by simp at hb1; omega
          refine ⟨a0, 0, he, by simp, .inl ⟨a0, by rw [hb], by simp⟩, fun bb hbb => by (unfold blkOf at hbb; cases a0 <;> cases hbb), ?_⟩
          cases a0 with
          | none => rfl
          | some a0 => simp [Addr.add]
        · have hlen : (l.map τ.enc).length = l.length := by simp
          rw [hlen] at he hcap
          have htk : ((l.take b.toNat).map τ.enc).length = b.toNat := by simp; omega
          refine ⟨_, cap, he, hcap, .inr ⟨bb, off, cap, c, T, fr, by rw [htk], hc0, hw, hfr, hm, by omega, hsz, ?_, ?_, ?_⟩, fun b' hb' => by rw [he]; exact hb', by simp [Addr.add]⟩
          · intro k row hk; rw [List.map_take, List.getElem?_take] at hk; split at hk <;> first | exact hrow k row hk | cases hk
          · intro k row j sv hk; rw [List.map_take, List.getElem?_take] at hk; split at hk <;> first | exact hone k row j sv hk | cases hk
          · intro k row j sv v hk; rw [List.map_take, List.getElem?_take] at hk; split at hk <;> first | exact hrr k row j sv v hk | cases hk
      obtain ⟨a0, cap, he, hcap, hR, hblk, hadd⟩ := key
      have hsb := run_sliceBounds (P := B.P) (s := true) (len := l.length) (cap := cap) (lo := none) (hi := some (.int k b)) (a := 0) (b := b.toNat) w ⟨k, b, rfl, hb0, by omega, rfl⟩ rfl
      have hrun : (Instr.sliceAt t (β id) none (some (.int k b)) none).run B.P w = .ok (.slice a0 b.toNat cap) w := by
        rw [he]
        simp [Instr.sliceAt, Instr.slice, run_underlying hu, hsb, run_sizeOf hi, hadd]
      refine ⟨_, σ', Φ', n, _, _, hk, hrun, ?_, sat_head (ch' := .own τ (l.take b.toNat)) (v' := .slice a0 b.toNat cap) st hg hσ hΦ1 hΦ rfl rfl rfl (Nat.le_refl _) (fun _ _ _ => rfl) (fun bb hbb => by rw [blk_own_eq] at hbb ⊢; exact .inl (hblk bb hbb)) (.own hR) rfl, fun D hD k s0 w0 sv0 hk0 => ?_⟩
      · exact own_rel hR.oneCell
      · obtain ⟨sv, q1, _⟩ := hσ k _ sv0 hk0
        exact hD k s0 w0 sv q1
  · exact h.elim

theorem tailK_sound {B : Base} {e N r β σ Φ a w n t id lo} {vl : Value} {K : EK} (h : tailK B t id lo σ Φ n K) (st : Sat B e N r β σ Φ a w) (hh : Rel r β lo vl) :
    ∃ sv v, K sv σ Φ n ∧ (Instr.sliceAt t (β id) (some vl) none none).run B.P w = .ok v w ∧ Rel r β sv v := by
  unfold tailK at h
  split at h
  · rename_i el τ l k b hu hg
    cases hz : szOk B.P el τ.size with
    | false => rw [hz] at h; exact h.elim
    | true =>
    rw [hz] at h
    obtain ⟨hts, hi⟩ := szOk_spec hz
    obtain ⟨hob, h⟩ := h
    obtain ⟨hb0, hb1⟩ := hob.h
    cases hh
    obtain ⟨i, hi⟩ := Option.ne_none_iff_exists'.1 hi
    have hs := st.mem.rows hg
    cases hs with
    | own hrs =>
      obtain ⟨a0, cap, he, hcap⟩ : ∃ a0 cap, β id = .slice a0 l.length cap ∧ l.length ≤ cap := by
        rcases hrs with ⟨a0, he, hl⟩ | ⟨bb, off, cap, c, T, fr, he, hc0, hw, hfr, hm, hcap, hsz, hrow, hone, hrr⟩
        · have hl : l = [] := by simpa using hl
          subst hl
          exact ⟨a0, 0, he, by simp⟩
        · exact ⟨_, cap, by simpa using he, by simpa using hcap⟩
      have hsb := run_sliceBounds (P := B.P) (s := true) (len := l.length) (cap := cap) (lo := some (.int k b)) (hi := none) (a := b.toNat) (b := l.length) w rfl ⟨k, b, rfl, hb0, by omega, rfl⟩
      refine ⟨_, _, h, ?_, .otl he (by omega) hcap⟩
      rw [he]
      have hs1 : i.size = τ.size := by rw [← hts, sizeT_run hi]
      simp [Instr.sliceAt, Instr.slice, run_underlying hu, hsb, run_sizeOf hi, hs1]
      have : (cap = b.toNat) ↔ (cap ≤ b.toNat) := by omega
      split <;> split <;> first | rfl | (exfalso; omega)
  · exact h.elim

theorem zeroCells_one (z : Value) (n : Nat) : (Builtin.zeroCells #[z] n).toList = List.replicate n z := by
  simp [Builtin.zeroCells]
  apply List.ext_getElem
  · simp
  · intro i h1 h2
    simp [Nat.mod_one]

theorem clearK_sound {B : Base} {e N r β σ Φ a w n t ty x} {vx : Value} {K : EK} (h : clearK B t x σ Φ n K) (st : Sat B e N r β σ Φ a w) (hx : Rel r β x vx) :
    ∃ sv Φ' v w', K sv σ Φ' n ∧ (Builtin.clear_ #[t] ty #[vx]).run B.P w = .ok v w' ∧ Rel r β sv v ∧ Sat B e N r β σ Φ' a w' := by
  unfold clearK at h
  split at h
  · rename_i el id sz k hu
    split at h
    · rename_i τ l hg
      cases hz : (szOk B.P el τ.size && (Nat.beq τ.size 1 && Nat.beq sz 1)) with
      | false => rw [hz] at h; exact h.elim
      | true =>
      rw [hz] at h
      simp only [Bool.and_eq_true] at hz
      obtain ⟨hz1, hz2, hz3⟩ := hz
      have hτ := beq_of hz2
      have hsz := beq_of hz3
      simp only [cond_true] at h
      obtain ⟨z, zv, h, hzo, _, hzrun, hzrel⟩ := zeroK_sound h
      cases hz4 : Nat.beq (len z) 1 with
      | false => rw [hz4] at h; exact h.elim
      | true =>
      rw [hz4] at h
      have hzl := beq_of hz4
      rw [len_eq] at hzl
      obtain ⟨d, h, hent⟩ := dec1K_sound h
      obtain ⟨Φ', hk, hΦ⟩ := setPK_sound h (hasId_of hg)
      cases hx with
      | otl hβ hkn hnc =>
        rename_i n0 cap a0
        have hs := st.mem.rows hg
        obtain ⟨c1, hzc⟩ : ∃ c1, zv.cells = #[c1] := by
          have := (hzrel r β).1
          rw [hzl] at this
          have h1 : zv.cells.size = 1 := by simpa using this
          exact ⟨zv.cells[0], by apply Array.ext (by simp [h1]); intro i h2 h3; simp at h3; subst h3; rfl⟩
        have hc1 : ∃ sv0, z = [sv0] ∧ ∀ r β, Rel r β sv0 c1 := by
          match z, hzl with
          | [sv0], _ => exact ⟨sv0, rfl, fun r β => (hzrel r β).2 0 sv0 c1 rfl (by rw [hzc]; rfl)⟩
        obtain ⟨sv0, rfl, hsv0⟩ := hc1
        have hone1 : c1.oneCell' = true := RelL.ones (hzrel r β) hzo c1 (by rw [hzc]; simp)
        obtain ⟨sv1, hsv1, hrel1⟩ : ∃ sv1, τ.enc d = [sv1] ∧ ∀ r β, Rel r β sv1 c1 := by
          have hlen : (τ.enc d).length = 1 := by rw [enc_len, hτ]
          match hq : τ.enc d, hlen with
          | [sv1], _ => exact ⟨sv1, rfl, fun r β => (hent.2 0 sv0 sv1 rfl (by rw [hq]; rfl)).1 r β c1 (hsv0 r β)⟩
        cases hs with
        | own hrs =>
          by_cases hnk : n0 - k = 0
          · -- nothing to do
            have hll : l.take k ++ List.replicate (l.length - k) d = l := by
              have hln : l.length = n0 := by
                rcases hrs with ⟨a1, he, hl⟩ | ⟨bb, off, cap', c, T, fr, he, hc0, hw, hfr, hm, hcap, hszc, hrow, hone, hrr⟩
                · rw [he] at hβ; simp at hβ
                  have hl : l = [] := by simpa using hl
                  subst hl; simp; exact hβ.2.1
                · rw [he] at hβ; simp at hβ; exact hβ.2.1
              rw [show l.length - k = 0 by omega, List.take_of_length_le (by omega)]; simp
            rw [hll] at hΦ
            refine ⟨_, Φ', .tuple #[], w, hk, ?_, ?_, ?_⟩
            · rw [hnk]
              generalize (if cap - k = 0 then a0 else a0.map (·.add (k * sz))) = a1
              cases a1 <;> simp [Builtin.clear_, run_underlying hu]
            · exact .tup (cs := []) rfl fun i sv v h => by simp at h
            · have same : ∀ j, Phi.get Φ' j = Phi.get Φ j := by
                intro j; rw [hΦ]
                cases hq : Nat.beq id j with
                | true => obtain rfl := beq_of hq; exact hg.symm
                | false => rfl
              have hpk : ∀ j c, Phi.get Φ' j = some c → Phi.get Φ j = some c := fun j c h => by rw [← same]; exact h
              refine ⟨st.agree, ⟨st.mem.vis, fun j c h => st.mem.chs _ _ (hpk _ _ h), fun j c b h1 h2 => st.mem.sep _ _ _ (hpk _ _ h1) h2, fun j j' c c' b h1 h2 h3 h4 => st.mem.nod _ _ _ _ _ (hpk _ _ h1) (hpk _ _ h2) h3 h4⟩, st.G, ?_, ?_, st.size⟩
              · obtain ⟨k1, k2, k3, k4, k5, k6, k7, k8⟩ := st.kept
                exact ⟨k1, k2, k3, k4, k5, fun b hb => ⟨(k6 b hb).1, (k6 b hb).2.1, fun j c h => (k6 b hb).2.2 j c (hpk _ _ h)⟩, fun j c h1 h2 => by
                  obtain ⟨p1, c', p2, p3⟩ := k7 j c h1 h2
                  exact ⟨p1, c', by rw [same]; exact p2, p3⟩, k8⟩
              · obtain ⟨Ds, d1, d2, d3⟩ := st.defers
                exact ⟨Ds, d1, d2, fun D hD => ⟨(d3 D hD).1, (d3 D hD).2.1, (d3 D hD).2.2.1, fun j c h => (d3 D hD).2.2.2 j c (hpk _ _ h)⟩⟩
          · rcases hrs with ⟨a1, he, hl⟩ | ⟨bb, off, cap', c, T, fr, he, hc0, hw, hfr, hm, hcap, hszc, hrow, hone, hrr⟩
            · rw [he] at hβ; simp at hβ; omega
            · have hβ' := hβ
              rw [he] at hβ
              simp only [Value.slice.injEq, List.length_map] at hβ
              obtain ⟨rfl, rfl, rfl⟩ := hβ
              simp only [List.length_map] at hcap
              have hck : ¬ (cap' - k = 0) := by omega
              rw [if_neg hck]
              rw [hτ] at hszc hrr
              rw [hsz]
              obtain ⟨cur', w', hr, q1, q2, q3, q4⟩ := run_storeCells (P := B.P) bb (off + k * 1) T fr (List.replicate (l.length - k) c1) 0 c w hw (by simp; omega) (fun v hv => by rw [List.eq_of_mem_replicate hv]; exact hone1) hfr.cell
              refine ⟨_, Φ', .tuple #[], w', hk, ?_, .tup (cs := []) rfl (fun i sv v h => by simp at h), sat_upd st hg hΦ q2 (blk_own he hc0) (by rw [blk_own he hc0, blk_own he hc0]) ?_ rfl⟩
              · obtain ⟨m, hm'⟩ : ∃ m, l.length - k = m + 1 := ⟨l.length - k - 1, by omega⟩
                have hst : (storeCells ⟨bb, off + k * 1, none⟩ (Builtin.zeroCells zv.cells (l.length - k)).toList).run B.P w = .ok () w' := by
                  rw [hzc, zeroCells_one]; exact hr
                rw [hm'] at hst ⊢
                simp only [Option.map_some, add_mk]
                simp [Builtin.clear_, run_underlying hu, hzrun]
                simp only [Nat.mul_one] at hst
                simp [hst]
              · refine .own (.inr ⟨bb, off, cap', cur', T, fr, by rw [he]; simp; omega, hc0, q1, hfr.turn q3, hm, by simp; omega, by rw [q3, hτ]; exact hszc, fun i row hi => ?_, fun i row j sv hi hj => ?_, fun i row j sv v hi hj hv => ?_⟩)
                · rw [List.getElem?_map] at hi
                  cases hq : (l.take k ++ List.replicate (l.length - k) d)[i]? with
                  | none => rw [hq] at hi; cases hi
                  | some y => rw [hq] at hi; simp at hi; rw [← hi, enc_len]
                · rw [List.getElem?_map] at hi
                  cases hq : (l.take k ++ List.replicate (l.length - k) d)[i]? with
                  | none => rw [hq] at hi; cases hi
                  | some y => rw [hq] at hi; simp at hi; rw [← hi] at hj; exact enc_one _ _ _ _ hj
                · rw [hτ] at hv
                  rw [List.getElem?_map, List.getElem?_append] at hi
                  have htl : (l.take k).length = k := by simp; omega
                  rw [htl] at hi
                  have hj0 : j = 0 := by
                    have h1 : row.length = 1 := by
                      split at hi
                      · cases hq : (l.take k)[i]? with
                        | none => rw [hq] at hi; cases hi
                        | some y => rw [hq] at hi; simp at hi; rw [← hi, enc_len, hτ]
                      · cases hq : (List.replicate (l.length - k) d)[i - k]? with
                        | none => rw [hq] at hi; cases hi
                        | some y => rw [hq] at hi; simp at hi; rw [← hi, enc_len, hτ]
                    have := lt_len hj; omega
                  subst hj0
                  rw [q4] at hv
                  simp only [List.length_replicate] at hv
                  by_cases hik : i < k
                  · rw [if_pos hik] at hi
                    rw [if_neg (by omega)] at hv
                    refine hrr i row 0 sv v ?_ hj hv
                    rw [List.getElem?_map]
                    rw [List.getElem?_take, if_pos hik] at hi
                    exact hi
                  · rw [if_neg hik] at hi
                    have hil : i - k < l.length - k := by
                      cases hq : (List.replicate (l.length - k) d)[i - k]? with
                      | none => rw [hq] at hi; cases hi
                      | some y => have := lt_len hq; simpa using this
                    rw [List.getElem?_replicate, if_pos hil] at hi
                    simp at hi
                    rw [← hi, hsv1] at hj
                    simp at hj
                    subst hj
                    rw [if_pos (by omega), List.getElem?_replicate, if_pos (by omega)] at hv
                    cases hv
                    exact hrel1 r β0
    · exact h.elim
  · exact h.elim
end Go.Vc

namespace Go.Vc
set_option autoImplicit false
set_option linter.unusedVariables false
set_option linter.unusedSimpArgs false

theorem eqPl_eq {x y : SV} (h : eqPl x y) : x = y := by
  unfold eqPl at h
  split at h
  · obtain ⟨rfl, rfl⟩ := h; rfl
  · rw [h]
  · rw [h]
  · exact h.elim
theorem eqPlL_eq : ∀ {xs ys : List SV}, eqPlL xs ys → xs = ys
  | [], [], _ => rfl
  | x :: r, y :: s, h => by rw [eqPl_eq h.1, eqPlL_eq h.2]
  | [], _ :: _, h => h.elim
  | _ :: _, [], h => h.elim
theorem eqPl1_eq {x y : SV} (h : eqPl1 x y) : x = y := by
  unfold eqPl1 at h
  split at h
  · rw [eqPlL_eq h]
  · exact eqPl_eq h
theorem eqPl1L_eq : ∀ {xs ys : List SV}, eqPl1L xs ys → xs = ys
  | [], [], _ => rfl
  | x :: r, y :: s, h => by rw [eqPl1_eq h.1, eqPl1L_eq h.2]
  | [], _ :: _, h => h.elim
  | _ :: _, [], h => h.elim

theorem YieldTo.mono {P : Program} {l : Nat} {vs : List Value} {w : World} {R R' : Ending → World → Prop} (h : YieldTo P l vs w R) (hr : ∀ e w', R e w' → R' e w') : YieldTo P l vs w R' := by
  obtain ⟨fn, tmps, assign, body, h1, h2⟩ := h
  exact ⟨fn, tmps, assign, body, h1, h2.mono hr⟩

/-- what is asked of the rounds: they keep all that is known -/
def YOk (B : Base) (F : Entry → Prop) (N : Nat) : Prop :=
  ∀ e r β σ Φ a w i vs, F e → Sat B e N r β σ Φ a w → Phi.get Φ GID = some (.gh (some i)) → i < B.Y.len → RelL r β (B.Y.at_ i) vs → freshE GID σ = true → freshQ GID Φ = true →
    YieldTo B.P B.Y.l vs w fun en w' => ∃ b, en = .returned (.bool b) ∧ ∃ e', F e' ∧
      ∀ Φ', (∀ j, Phi.get Φ' j = bif Nat.beq GID j then some (.gh (bif b then some (i + 1) else none)) else Phi.get Φ j) → ∃ β', Sat B e' N r β' σ Φ' a w'
theorem YOk.none {B : Base} {F : Entry → Prop} {N : Nat} (h : B.Y.len = 0) : YOk B F N := fun e r β σ Φ a w i vs _ _ _ hi => by omega

theorem yieldK_sound {B : Base} {F : Entry → Prop} {N : Nat} (hY : YOk B F N) {e r β σ Φ a w n l} {xs : List SV} {vs : List Value} {K : EK} (h : yieldK B l xs σ Φ n K) (hF : F e) (s : Sat B e N r β σ Φ a w) (hx : RelL r β xs vs) :
    YieldTo B.P l vs w fun en w' => ∃ v, en = .returned v ∧ ∃ e', F e' ∧ After B e' N a σ K v w' := by
  unfold yieldK at h
  split at h
  · rename_i i hg
    cases hc : (freshE GID σ && freshQ GID Φ) with
    | false => rw [hc] at h; exact h.elim
    | true =>
      rw [hc] at h
      simp only [Bool.and_eq_true] at hc
      obtain ⟨⟨rfl⟩, ⟨hi⟩, heq, ht, hf⟩ := h
      obtain rfl := eqPl1L_eq heq
      obtain ⟨Φt, hkt, hΦt⟩ := setPK_sound ht (hasId_of hg)
      obtain ⟨Φf, hkf, hΦf⟩ := setPK_sound hf (hasId_of hg)
      refine (hY e r β σ Φ a w i vs hF s hg hi hx hc.1 hc.2).mono ?_
      rintro en w' ⟨b, rfl, e', hF', hs⟩
      refine ⟨_, rfl, e', hF', ?_⟩
      cases b with
      | true =>
        obtain ⟨β', s'⟩ := hs Φt hΦt
        exact ⟨⟨_, _, _, _, _, _, hkt, .bool, s', fun _ h => h⟩⟩
      | false =>
        obtain ⟨β', s'⟩ := hs Φf hΦf
        exact ⟨⟨_, _, _, _, _, _, hkf, .bool, s', fun _ h => h⟩⟩
  · exact h.elim
end Go.Vc

namespace Go.Vc
set_option autoImplicit false
set_option linter.unusedVariables false
set_option linter.unusedSimpArgs false

theorem run_append_empty {P : Program} {w : World} {t tx e ty : TypeId} (ht : P.underlying t = some (.slice e)) (hx : P.underlying tx = some .string) (hi : (P.info? e).isSome = true) :
    (Builtin.append_ #[t, tx] ty #[.slice none 0 0, .string ⟨#[]⟩]).run P w = .ok (.slice none 0 0) w := by
  obtain ⟨i, hi⟩ := Option.isSome_iff_exists.1 hi
  have hz : (ByteArray.mk #[]).size = 0 := rfl
  simp [Builtin.append_, run_underlying ht, run_underlying hx, sizeOf, typeInfo, hi, Builtin.lenOf, Builtin.firstCells, hz]

theorem appN_sound {B : Base} {e N r β σ Φ a w n ts tx ty} {x : SV} {vx : Value} {K : EK} (h : AppN B ts tx x σ Φ n K) (st : Sat B e N r β σ Φ a w) (hx : Rel r β x vx) :
    ∃ sv σ' Φ' n' v w' β', K sv σ' Φ' n' ∧ (Builtin.append_ #[ts, tx] ty #[.slice none 0 0, vx]).run B.P w = .ok v w' ∧ Rel r β' sv v ∧ Sat B e N r β' σ' Φ' a w' ∧ (∀ D, GdIn D σ → GdIn D σ') := by
  cases h with
  | mk h => exact appendK_sound h st .nils hx
  | nl ht hs k =>
    subst hs
    cases hx
    split at ht
    · rename_i el hts htx
      exact ⟨_, _, _, _, _, w, β, k, run_append_empty hts htx ht, .nils, st, fun _ h => h⟩
    · cases ht

theorem sdataK_sound {B : Base} {e N r β σ Φ a w n t ty} {x : SV} {vx : Value} {K : EK} (h : sdataK x σ Φ n K) (st : Sat B e N r β σ Φ a w) (hx : Rel r β x vx) :
    ∃ sv v, K sv σ Φ n ∧ (Builtin.unsafeSliceData_ #[t] ty #[vx]).run B.P w = .ok v w ∧ Rel r β sv v := by
  unfold sdataK at h
  split at h
  · cases hx
    exact ⟨_, _, h, rfl, .v⟩
  · rename_i id
    split at h
    · rename_i τ l hg
      obtain ⟨hob, h⟩ := h
      have hne := hob.h
      have hm := st.mem.rows hg
      cases hm with
      | own hrs =>
        have hv : vx = β id := by cases hx; rfl
        subst hv
        rcases hrs with ⟨a0, he, hl⟩ | ⟨bb, off, cap, c, T, fr, he, hc0, hw, hfr, hm, hcap, hsz, hrow, hone, hrr⟩
        · exact absurd (by simpa using hl) hne
        · refine ⟨_, _, h, by rw [he]; exact Lib.run_unsafeSliceData_row _ _ _ _ _ _ hc0, ?_⟩
          have := Rel.oel (r := r) (β := β) (id := id) (sz := τ.size) (i := 0) (off := 0) he
          simpa using this
    · exact h.elim
  · exact h.elim

theorem freeze_oth (w : World) (p : Addr) (n : Nat) (b : Nat) (hb : b ≠ p.block) : (w.freeze p n).heap[b]? = w.heap[b]? := by
  unfold World.freeze
  split
  · rfl
  · simp only [Array.getElem?_modify]
    rw [if_neg (fun h => hb h.symm)]
theorem freeze_same (w : World) (p : Addr) (n : Nat) : (w.freeze p n).os = w.os ∧ (w.freeze p n).tape = w.tape ∧ (w.freeze p n).output = w.output ∧ (w.freeze p n).heap.size = w.heap.size := by
  unfold World.freeze
  split
  · exact ⟨rfl, rfl, rfl, rfl⟩
  · exact ⟨rfl, rfl, rfl, by simp⟩

theorem ustrK_sound {B : Base} {e N r β σ Φ a w n tp ti ty} {p i : SV} {vp vi : Value} {K : EK} (h : ustrK B tp p i σ Φ n K) (st : Sat B e N r β σ Φ a w) (hp : Rel r β p vp) (hi : Rel r β i vi) :
    ∃ sv σ' Φ' n' v w' β', K sv σ' Φ' n' ∧ (Builtin.unsafeString_ #[tp, ti] ty #[vp, vi]).run B.P w = .ok v w' ∧ Rel r β' sv v ∧ Sat B e N r β' σ' Φ' a w' ∧ (∀ D, GdIn D σ → GdIn D σ') := by
  unfold ustrK at h
  split at h
  · rename_i m
    obtain ⟨hob, h⟩ := h
    have hm := hob.h
    subst hm
    cases hp; cases hi
    exact ⟨_, _, _, _, _, w, β, h, Lib.run_unsafeString_none w tp ti ty none, .str (by simp), st, fun _ h => h⟩
  · rename_i id m
    split at h
    · rename_i e0 l htp hg
      cases hz : (Nat.beq e0 5 && Nat.beq (B.P.cellsOf e0) 1) with
      | false => rw [hz] at h; exact h.elim
      | true =>
      rw [hz] at h
      simp only [Bool.and_eq_true] at hz
      have he5 := beq_of hz.1
      have hc1 := beq_of hz.2
      obtain ⟨hob, h⟩ := h
      obtain ⟨hm, hne⟩ := hob.h
      subst hm
      obtain ⟨σ', h, hσ⟩ := staleE_sound h
      obtain ⟨Φ1, h, hΦ1⟩ := staleP_sound h
      obtain ⟨c1, hc1'⟩ := (hΦ1 id).2 _ hg
      obtain ⟨Φ', hk, hΦ⟩ := setPK_sound h (hasId_of hc1')
      cases hi
      cases hp with
      | oel hβ =>
        rename_i b off0 n0 cap0
        have hm := st.mem.rows hg
        cases hm with
        | own hrs =>
          rcases hrs with ⟨a0, he, hl⟩ | ⟨bb, off, cap, c, T, fr, he, hc0, hw, hfr, hm, hcap, hsz, hrow, hone, hrr⟩
          · exact absurd (by simpa using hl) hne
          · rw [he] at hβ
            simp only [Value.slice.injEq, Option.some.injEq, Addr.mk.injEq] at hβ
            obtain ⟨⟨rfl, rfl, _⟩, _, _⟩ := hβ
            obtain ⟨hT, hoff⟩ := hfr.1 rfl
            subst hoff
            rw [List.length_map] at hcap
            have hsz' : 0 + cap ≤ c.size := by have : 0 + cap * 1 ≤ c.size := hsz; omega
            have hadd : 0 + 0 * 1 + 0 = 0 := rfl
            rw [hadd]
            have hcell : ∀ j x, l[j]? = some x → w.cell? ((⟨bb, 0, none⟩ : Addr).add j) = some (.int .u8 x.toNat) := by
              intro j x hj
              have hjl := lt_len hj
              rw [add_mk]
              simp only [World.cell?, hw]
              have hjc : 0 + j < c.size := by omega
              rw [Array.getElem?_eq_getElem hjc]
              have hr := hrr j (Ty.enc .byte x) 0 (.int .u8 x.toNat) c[0 + j] (by rw [List.getElem?_map, hj]; rfl) rfl (by
                have : 0 + j * Ty.byte.size + 0 = 0 + j := by show 0 + j * 1 + 0 = _; omega
                rw [this]; exact Array.getElem?_eq_getElem hjc)
              generalize c[0 + j] = u at hr ⊢
              cases hr
              rfl
            have hrun := Lib.run_unsafeString_row (P := B.P) w tp ti ty e0 htp hc1 bb c.size (by simp [World.shape?, hw, hT, he5]) l hne (by omega) (by omega) hcell
            obtain ⟨f1, f2, f3, f4⟩ := freeze_same w ⟨bb, 0, none⟩ l.length
            have hbl : (Chunk.own Ty.byte l).blk (β id) = some bb := blk_own he hc0
            refine ⟨_, σ', Φ', n, _, _, _, hk, hrun, .str (by omega), sat_head (ch' := .own .byte []) (v' := .slice none 0 0) st hg hσ hΦ1 hΦ f1 f2 f3 (by rw [f4]; exact Nat.le_refl _)
              (fun b' _ hb' => freeze_oth w _ _ b' (fun h0 => hb' (by rw [hbl]; simp at h0; rw [h0]))) (fun b' hb' => by cases hb') (.own (.inl ⟨none, rfl, rfl⟩)) rfl, fun D hD k s0 w0 sv0 hk0 => ?_⟩
            obtain ⟨sv, q1, _⟩ := hσ k _ sv0 hk0
            exact hD k s0 w0 sv q1
    · exact h.elim
  · exact h.elim
end Go.Vc
