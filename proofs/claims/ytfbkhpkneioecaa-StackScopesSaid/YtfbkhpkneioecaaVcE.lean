/- A part of the proof: lemmas and walks that the last text of the claim joins; no condition. -/
import Derived.Test.YtfbkhpkneioecaaVcD
import Derived.Laws.IdiomStrings
import Derived.OrdersIn
import Derived.Still
set_option linter.unusedVariables false
set_option linter.unusedSimpArgs false
namespace Go.Vc
set_option autoImplicit false
set_option linter.unusedVariables false
set_option linter.unusedSimpArgs false

theorem mem_own0L {id : Nat} {l : List SV} {r : List Nat} : id ∈ own0L l r ↔ (SV.own id ∈ l ∨ id ∈ r) := by
  induction l with
  | nil => simp [own0L]
  | cons x xs ih =>
    simp only [own0L, List.mem_cons]
    by_cases hx : ∃ i, x = .own i
    · obtain ⟨i, rfl⟩ := hx
      simp only [own0, List.mem_cons, ih, SV.own.injEq]
      constructor
      · rintro (h | h | h)
        · exact .inl (.inl h)
        · exact .inl (.inr h)
        · exact .inr h
      · rintro ((h | h) | h)
        · exact .inl h
        · exact .inr (.inl h)
        · exact .inr (.inr h)
    · have e : own0 x (own0L xs r) = own0L xs r := by cases x <;> first | rfl | exact (hx ⟨_, rfl⟩).elim
      rw [e, ih]
      constructor
      · rintro (h | h)
        · exact .inl (.inr h)
        · exact .inr h
      · rintro ((h | h) | h)
        · exact (hx ⟨id, h.symm⟩).elim
        · exact .inl h
        · exact .inr h
theorem own1L_cons {id : Nat} {x : SV} {xs : List SV} : (id ∈ own1L xs → id ∈ own1L (x :: xs)) ∧ (x = .own id → id ∈ own1L (x :: xs)) ∧ (∀ l, x = .agg l → SV.own id ∈ l → id ∈ own1L (x :: xs)) := by
  by_cases hx : ∃ l, x = .agg l
  · obtain ⟨l, rfl⟩ := hx
    refine ⟨fun h => mem_own0L.2 (.inr h), (fun h => by cases h), fun l' h hm => ?_⟩
    cases h; exact mem_own0L.2 (.inl hm)
  · have e : own1L (x :: xs) = own0 x (own1L xs) := by cases x <;> first | rfl | exact (hx ⟨_, rfl⟩).elim
    rw [e]
    refine ⟨fun h => ?_, fun h => by subst h; simp [own0], fun l h => (hx ⟨l, h⟩).elim⟩
    cases x <;> first | exact h | (simp [own0, h])

theorem ln0_q {Φ : Phi} {x : SV} {K : SV → Prop} (h : ln0 Φ x K) : ∃ y, K y ∧ ∀ q r β w v, (∀ id, x = .own id → q id = true) → MemSat r β Φ w → Rel r β x v → Rel (frz q r β Φ w) β y v := by
  by_cases hx : ∃ id, x = .own id
  · obtain ⟨id, rfl⟩ := hx
    simp only [ln0] at h
    split at h
    · rename_i τ l hg
      refine ⟨_, h, fun q r β w v hq m hr => ?_⟩
      cases hr
      exact own_frz m (hq id rfl) hg β
    · exact h.elim
  · have h' : K x := by cases x <;> first | exact h | exact (hx ⟨_, rfl⟩).elim
    exact ⟨x, h', fun q r β w v _ m hr => hr.mono (frz_le m)⟩
theorem lendK_q {Φ : Phi} : ∀ {xs : List SV} {K : List SV → Prop}, lendK Φ xs K → ∃ ys, K ys ∧ ∀ q r β w vs, (∀ id ∈ own1L xs, q id = true) → MemSat r β Φ w → RelL r β xs vs → RelL (frz q r β Φ w) β ys vs := by
  intro xs
  induction xs with
  | nil => intro K h; exact ⟨[], h, fun q r β w vs _ m hv => by rw [hv.nil_inv]; exact .nil⟩
  | cons x xs ih =>
    intro K h
    have h : ln1 Φ x fun y => lendK Φ xs fun l => K (y :: l) := h
    have one : ∃ y, (lendK Φ xs fun l => K (y :: l)) ∧ ∀ q r β w v, (∀ id ∈ own1L (x :: xs), q id = true) → MemSat r β Φ w → Rel r β x v → Rel (frz q r β Φ w) β y v := by
      by_cases hx : ∃ l, x = .agg l
      · obtain ⟨l, rfl⟩ := hx
        obtain ⟨ys, hk, hl, hh⟩ := lift_list (D := ln0 Φ) (DL := ln0L Φ) (R := fun x y => ∀ q r β w v, (∀ id, x = .own id → q id = true) → MemSat r β Φ w → Rel r β x v → Rel (frz q r β Φ w) β y v) (fun _ h => h) (fun _ _ _ h => h) (fun _ _ h => ln0_q h) l _ h
        refine ⟨_, hk, fun q r β w v hq m hv => ?_⟩
        obtain ⟨cs, rfl, hcs⟩ := hv.aggL_inv
        refine .aggL ⟨by rw [hcs.1, hl], fun i y v q1 q2 => ?_⟩
        obtain ⟨x0, p1, p2⟩ := hh i y q1
        exact p2 q r β w v (fun id he => hq id (own1L_cons.2.2 l rfl (by rw [← he]; exact List.mem_of_getElem? p1))) m (hcs.2 i x0 v p1 q2)
      · have h' : ln0 Φ x fun y => lendK Φ xs fun l => K (y :: l) := by cases x <;> first | exact h | exact (hx ⟨_, rfl⟩).elim
        obtain ⟨y, hk, hr⟩ := ln0_q h'
        exact ⟨y, hk, fun q r β w v hq m hv => hr q r β w v (fun id he => hq id (own1L_cons.2.1 he)) m hv⟩
    obtain ⟨y, h, hy⟩ := one
    obtain ⟨ys, hk, hys⟩ := ih h
    refine ⟨_, hk, fun q r β w vs hq m hv => ?_⟩
    obtain ⟨v, us, rfl, hv1, hv2⟩ := hv.uncons
    exact RelL.cons (hy q r β w v hq m hv1) (hys q r β w us (fun id hi => hq id (own1L_cons.1 hi)) m hv2)

theorem lentOk_spec {m : NN} {l : List Nat} (h : lentOk m l = true) : ∀ i, memN i l = true → hasFst m i = false := by
  induction l with
  | nil => intro i hi; cases hi
  | cons x r ih =>
    simp only [lentOk, Bool.and_eq_true, Bool.not_eq_true'] at h
    intro i hi
    simp only [memN, Bool.or_eq_true] at hi
    rcases hi with hi | hi
    · rw [← beq_of hi]; exact h.1
    · exact ih h.2 i hi

theorem callMK_sound {B : Base} {e N a w f args lent σ Φ n} {K : EK} (h : callMK B f args lent σ Φ n K) {r β} (s : Sat B e N r β σ Φ a w) {vs : List Value}
    (hargs : RelL (frz (fun i => memN i lent) r β Φ w) β args vs) :
    (∀ w, (callFunc f vs.toArray).run B.P w = .ok (.enter f vs.toArray) w) ∧ Calls B.P f vs.toArray w fun ev w' => ∃ v, ev = .returned v ∧ After B e N a σ K v w' := by
  obtain ⟨m, h⟩ := reachK_sound h
  obtain ⟨cargs, h, hl, hh⟩ := rn1L_sound h
  obtain ⟨Φc, h, hc1, hc2⟩ := subPK_sound h
  cases h with
  | mk hlt hp k =>
    rename_i pre res Φ' fn
    simp only [Bool.and_eq_true] at hlt
    obtain ⟨hlt, hpl⟩ := hlt
    obtain ⟨βc, hrn, mc, fin⟩ := afterK_sound k s (lentOk_spec hlt) hc1 hc2
    refine ⟨fun w => fn.call _ w, ?_⟩
    refine (fn.ok hp.h _ βc w vs (B.mono _ _ (frz_le s.mem) s.G) mc (relL_of hl hh (fun x y v hR hx => hR _ _ _ _ hrn hx) hargs)).mono ?_
    rintro ev w' ⟨v, sv, r', βc', Φ1, he, ⟨rfl, rfl⟩, hr, m', hle, hid⟩
    refine ⟨v, he, ?_⟩
    cases lent with
    | nil =>
      have hz : frz (fun i => memN i []) r β Φ w = r := frz_none
      exact fin m' hle hid (by rw [hz] at hle; exact hle) (Mem.le_refl r') (fun _ _ _ h => by cases h) hr (fun j ch hj => m'.chs _ _ hj)
    | cons x l =>
      have hpl : (SV.plainI sv && plainP Φ1) = true := hpl
      simp only [Bool.and_eq_true] at hpl
      refine fin (r2 := fun b => if b < w.heap.size then r b else r' b) m' hle hid (fun b o hb => ?_) (fun b o hb => ?_) (fun id ch b _ p1 _ p3 => ?_) (plainI_keep hr hpl.1) (fun j ch hj => ?_)
      · have := lt_of_get (s.mem.vis _ _ hb)
        simp only [this, if_true]; exact hb
      · simp only at hb
        split at hb
        · exact hle _ _ (frz_le s.mem _ _ hb)
        · exact hb
      · simp only [blk_lt s.mem p1 p3, if_true]
        exact s.mem.sep _ _ _ p1 p3
      · obtain ⟨τ, l, rfl, hτ⟩ := plainP_get hpl.2 hj
        exact own_plain_sat (m'.chs _ _ hj) hτ

/-- the same rows, lent or not -/
inductive RoEq : Chunk → Chunk → Prop
  | same (c) : RoEq c c
  | lend (τ) (l : List (Ty.T τ)) : RoEq (.own τ l) (.ro τ l)
  | back (τ) (l : List (Ty.T τ)) : RoEq (.ro τ l) (.own τ l)
theorem RoEq.blk {c c' : Chunk} (h : RoEq c c') (x : Value) : c'.blk x = c.blk x := by
  cases h with
  | same => rfl
  | lend τ l => cases x <;> first | rfl | (rename_i a _ _; cases a <;> rfl)
  | back τ l => cases x <;> first | rfl | (rename_i a _ _; cases a <;> rfl)
theorem RoEq.sat {c c' : Chunk} (h : RoEq c c') {r β w x} (hs : c.Sat r β w x) : c'.Sat r β w x := by
  cases h with
  | same => exact hs
  | lend τ l => cases hs with | own h => exact .ro h
  | back τ l => cases hs with | ro h => exact .own h
theorem sat_swap {B : Base} {e N r β σ Φ Φ2 a w} (s : Sat B e N r β σ Φ a w) (hsw : ∀ j c2, Phi.get Φ2 j = some c2 → ∃ c, Phi.get Φ j = some c ∧ RoEq c c2)
    (hkeep : ∀ id ch, Phi.get e.Φ id = some ch → ch.kind ≠ 0 → Phi.get Φ2 id = Phi.get Φ id) : Sat B e N r β σ Φ2 a w := by
  refine ⟨s.agree, ⟨s.mem.vis, fun j c2 h => ?_, fun j c2 b h hb => ?_, fun j j' c2 c2' b h h' hb hb' => ?_⟩, s.G, ⟨s.kept.le, s.kept.os, s.kept.tape, s.kept.output, s.kept.size, fun b hb => ?_, fun id ch h hk => ?_, s.kept.slt⟩, ?_, s.size⟩
  · obtain ⟨c, h1, h2⟩ := hsw j c2 h
    exact h2.sat (s.mem.chs _ _ h1)
  · obtain ⟨c, h1, h2⟩ := hsw j c2 h
    rw [h2.blk] at hb
    exact s.mem.sep _ _ _ h1 hb
  · obtain ⟨c, h1, h2⟩ := hsw j c2 h
    obtain ⟨c', h1', h2'⟩ := hsw j' c2' h'
    rw [h2.blk] at hb; rw [h2'.blk] at hb'
    exact s.mem.nod _ _ _ _ _ h1 h1' hb hb'
  · obtain ⟨x1, x2, x3⟩ := s.kept.block b hb
    refine ⟨x1, x2, fun j c2 h hb' => ?_⟩
    obtain ⟨c, g1, g2⟩ := hsw j c2 h
    rw [g2.blk] at hb'
    exact x3 j c g1 hb'
  · obtain ⟨q1, ch', q2, q3⟩ := s.kept.keep id ch h hk
    exact ⟨q1, ch', by rw [hkeep id ch h hk]; exact q2, q3⟩
  · obtain ⟨Ds, h1, h2, h3⟩ := s.defers
    refine ⟨Ds, h1, h2, fun D hD => ?_⟩
    obtain ⟨g1, g2, g3, g4⟩ := h3 D hD
    refine ⟨g1, g2, g3, fun j c2 h hb => ?_⟩
    obtain ⟨c, k1, k2⟩ := hsw j c2 h
    rw [k2.blk] at hb
    exact g4 j c k1 hb
theorem roK_sound : ∀ {ids : List Nat} {Φ : Phi} {K : Phi → Prop}, roK ids Φ K → ∃ Φr, K Φr ∧ (∀ j c2, Phi.get Φr j = some c2 → ∃ c, Phi.get Φ j = some c ∧ RoEq c c2) ∧ (∀ j, j ∉ ids → Phi.get Φr j = Phi.get Φ j) ∧ (∀ j ∈ ids, ∃ τ l, Phi.get Φ j = some (.own τ l) ∧ Phi.get Φr j = some (.ro τ l)) := by
  intro ids
  induction ids with
  | nil => intro Φ K h; exact ⟨Φ, h, fun j c2 hj => ⟨c2, hj, .same _⟩, fun _ _ => rfl, fun j hj => by cases hj⟩
  | cons i ids ih =>
    intro Φ K h
    simp only [roK] at h
    split at h
    · rename_i τ l hg
      obtain ⟨Φ1, h, hΦ⟩ := setPK_sound h (hasId_of hg)
      obtain ⟨Φr, hk, h1, h2, h3⟩ := ih h
      have hi1 : Phi.get Φ1 i = some (.ro τ l) := by rw [hΦ, Nat.beq_refl]; rfl
      have hni : i ∉ ids := fun hm => by
        obtain ⟨τ', l', g1, _⟩ := h3 i hm
        rw [hi1] at g1; cases g1
      have hne : ∀ j, j ≠ i → Phi.get Φ1 j = Phi.get Φ j := fun j hj => by rw [hΦ, nbeq_of (fun h => hj h.symm)]; rfl
      refine ⟨Φr, hk, fun j c2 hj => ?_, fun j hj => ?_, fun j hj => ?_⟩
      · by_cases hji : j = i
        · subst hji
          rw [h2 j hni, hi1] at hj
          cases hj
          exact ⟨_, hg, .lend τ l⟩
        · obtain ⟨c, g1, g2⟩ := h1 j c2 hj
          rw [hne j hji] at g1
          exact ⟨c, g1, g2⟩
      · simp only [List.mem_cons, not_or] at hj
        rw [h2 j hj.2, hne j hj.1]
      · by_cases hji : j = i
        · subst hji
          exact ⟨τ, l, hg, by rw [h2 j hni, hi1]⟩
        · rcases List.mem_cons.1 hj with h | hj
          · exact (hji h).elim
          · obtain ⟨τ', l', g1, g2⟩ := h3 j hj
            rw [hne j hji] at g1
            exact ⟨τ', l', g1, g2⟩
    · exact h.elim
    · exact h.elim
theorem unroK_sound : ∀ {ids : List Nat} {Φ : Phi} {K : Phi → Prop}, unroK ids Φ K → ∃ Φr, K Φr ∧ (∀ j c2, Phi.get Φr j = some c2 → ∃ c, Phi.get Φ j = some c ∧ RoEq c c2) ∧ (∀ j, j ∉ ids → Phi.get Φr j = Phi.get Φ j) := by
  intro ids
  induction ids with
  | nil => intro Φ K h; exact ⟨Φ, h, fun j c2 hj => ⟨c2, hj, .same _⟩, fun _ _ => rfl⟩
  | cons i ids ih =>
    intro Φ K h
    simp only [unroK] at h
    split at h
    · rename_i τ l hg
      obtain ⟨Φ1, h, hΦ⟩ := setPK_sound h (hasId_of hg)
      obtain ⟨Φr, hk, h1, h2⟩ := ih h
      have hi1 : Phi.get Φ1 i = some (.own τ l) := by rw [hΦ, Nat.beq_refl]; rfl
      have hne : ∀ j, j ≠ i → Phi.get Φ1 j = Phi.get Φ j := fun j hj => by rw [hΦ, nbeq_of (fun h => hj h.symm)]; rfl
      refine ⟨Φr, hk, fun j c2 hj => ?_, fun j hj => ?_⟩
      · obtain ⟨c, g1, g2⟩ := h1 j c2 hj
        by_cases hji : j = i
        · subst hji
          rw [hi1] at g1
          cases g1
          cases g2 with
          | same => exact ⟨_, hg, .back τ l⟩
          | lend => exact ⟨_, hg, .same _⟩
        · rw [hne j hji] at g1
          exact ⟨c, g1, g2⟩
      · simp only [List.mem_cons, not_or] at hj
        rw [h2 j hj.2, hne j hj.1]
    · exact h.elim
theorem callS_sound {B : Base} {e N a w f args σ Φ n} {K : EK} (h : CallS B f args σ Φ n K) {r β} (s : Sat B e N r β σ Φ a w) {vs : List Value} (hargs : RelL r β args vs) {o : Oper}
    (hrun : ∀ w, (execOp a.eval o).run B.P w = (callFunc f vs.toArray).run B.P w) : OpTo B.P a w o (After B e N a σ K) := by
  cases h with
  | q h =>
    obtain ⟨sv, hk, hop⟩ := call_sound h
    refine (hop (fun _ h => h) r β w vs a o s.G s.mem hargs hrun).mono ?_
    rintro v w' ⟨r', hr, hle, m', hid⟩
    exact ⟨sv, σ, Φ, n, r', β, hk, hr, s.step (s.agree.of fun k g sv hk => ⟨sv, hk, fun v hr => hr.mono hle⟩) m' hle hid, fun D hD => hD⟩
  | m h =>
    obtain ⟨ys, h, hl⟩ := lendK_q h
    obtain ⟨h1, h2⟩ := callMK_sound h s (hl _ r β w vs (fun id hi => memN_iff.2 hi) s.mem hargs)
    exact .call f vs.toArray (by rw [hrun]; exact h1 _) h2
  | h h =>
    obtain ⟨h1, h2⟩ := callMK_sound h s (by
      have hz : frz (fun i => memN i []) r β Φ w = r := frz_none
      rw [hz]; exact hargs)
    exact .call f vs.toArray (by rw [hrun]; exact h1 _) h2
  | b h =>
    obtain ⟨Φr, h, hr1, hr2, hr3⟩ := roK_sound h
    have hno : ∀ id ch, Phi.get e.Φ id = some ch → ch.kind ≠ 0 → id ∉ own1L args := fun id ch hi hk hm => by
      obtain ⟨τ, l, g1, _⟩ := hr3 id hm
      obtain ⟨_, ch', q2, q3⟩ := s.kept.keep id ch hi hk
      rw [g1] at q2; cases q2
      exact hk q3.symm
    have s1 := sat_swap s hr1 (fun id ch hi hk => hr2 id (hno id ch hi hk))
    obtain ⟨h1, h2⟩ := callMK_sound h s1 (by
      have hz : frz (fun i => memN i []) r β Φr w = r := frz_none
      rw [hz]; exact hargs)
    refine .call f vs.toArray (by rw [hrun]; exact h1 _) (h2.mono ?_)
    rintro ev w' ⟨v, he, sv, σ2, Φ2, n', r2, β2, k1, k2, k3, k4⟩
    obtain ⟨Φu, k1, u1, u2⟩ := unroK_sound k1
    exact ⟨v, he, sv, σ2, Φu, n', r2, β2, k1, k2, sat_swap k3 u1 (fun id ch hi hk => u2 id (hno id ch hi hk)), k4⟩
  | z h =>
    obtain ⟨xs', σ', Φ', r', h, s', hv', hD⟩ := frzK_sound h s hargs
    obtain ⟨h1, h2⟩ := callMK_sound h s' (by
      have hz : frz (fun i => memN i []) r' β Φ' w = r' := frz_none
      rw [hz]; exact hv')
    refine .call f vs.toArray (by rw [hrun]; exact h1 _) (h2.mono ?_)
    rintro ev w' ⟨v, he, sv, σ2, Φ2, n', r2, β2, k1, k2, k3, k4⟩
    exact ⟨v, he, sv, σ2, Φ2, n', r2, β2, k1, k2, k3, fun D h0 => k4 D (hD D h0)⟩
end Go.Vc

namespace Go.Vc
set_option autoImplicit false
set_option linter.unusedVariables false

theorem run_equal_nil {P : Program} {t e : TypeId} (hu : P.underlying t = some (.slice e)) (x : Option Addr) (n c : Nat) (w : World) : (Op.equal t (.slice x n c) (.slice none 0 0)).run P w = .ok x.isNone w := by
  unfold Op.equal Op.maxDepth
  rw [show (10000 : Nat) = 9999 + 1 from rfl, Op.equalIn]
  simp only [Sem.run_bind, run_underlying hu, Result.andThen_ok]
  cases x <;> rfl
theorem rows_slice {r w x bt sz rows} (h : RowsAt r w x bt sz rows) : ∃ a n c, x = .slice a n c ∧ (a = none → rows = []) := by
  rcases h with ⟨a, rfl, rfl⟩ | ⟨b, off, cap, c, T, fr, rfl, _⟩
  · exact ⟨a, 0, 0, rfl, fun _ => rfl⟩
  · exact ⟨_, _, _, rfl, fun h => by cases h⟩
theorem lits_slice {r β sz rows x} (h : Rel r β (.lits sz rows) x) : ∃ a n c, x = .slice a n c ∧ (a = none → rows = []) := by
  cases h with
  | litsE => exact ⟨_, _, _, rfl, fun _ => rfl⟩
  | lits => exact ⟨_, _, _, rfl, fun h => by cases h⟩
theorem nilK_sound {P : Program} {Φ t x} {K : Bool → Prop} (h : nilK P Φ t x K) {r β w v} (m : MemSat r β Φ w) (hx : Rel r β x v) :
    ∃ b, K b ∧ (Op.equal t v (.slice none 0 0)).run P w = .ok b w ∧ ∃ a n c, v = .slice a n c := by
  unfold nilK at h
  split at h
  · rename_i e hu
    split at h
    · cases hx
      exact ⟨true, h, run_equal_nil hu none 0 0 w, _, _, _, rfl⟩
    · cases hx with
      | rd hx =>
        obtain ⟨a, n, c, rfl, ha⟩ := lits_slice hx
        exact ⟨a.isNone, h _ (fun hb => by
          have := ha (by simpa using hb)
          simpa using this), run_equal_nil hu a n c w, _, _, _, rfl⟩
    · split at h
      · rename_i id τ l hg
        have hs := m.rowsR hg
        cases hs with
        | own hrows =>
          obtain ⟨a, n, c, hv, ha⟩ := rows_slice hrows
          cases hx
          rw [hv]
          exact ⟨a.isNone, h _ (fun hb => by
            have := ha (by simpa using hb)
            simpa using this), run_equal_nil hu a n c w, _, _, _, rfl⟩
      · exact h.elim
    · exact h.elim
  · exact h.elim

theorem guard_slice {P : Program} {op : BinOp} {t : TypeId} {x y : Operand} {a a' : Option Addr} {n c n' c' : Nat} {w : World} : (eqGuard op t x y (.slice a n c) (.slice a' n' c')).run P w = .ok () w := by
  unfold eqGuard; split <;> rfl
theorem storeFK_sound {B : Base} {e N r β σ Φ a w n t} {p x : SV} {vp vx : Value} {K : EK} (h : storeFK B.P t p x σ Φ n K) (s : Sat B e N r β σ Φ a w) (hp : Rel r β p vp) (hx : Rel r β x vx) :
    ∃ sv σ' Φ' r' w', K sv σ' Φ' n ∧ (Instr.storeAt t vp vx).run B.P w = .ok () w' ∧ sv = .und ∧ Sat B e N r' β σ' Φ' a w' ∧ (∀ D, GdIn D σ → GdIn D σ') := by
  unfold storeFK at h
  split at h
  · obtain ⟨xs', σ', Φ', r', h, s', hv, hD⟩ := frzK_sound h s (vs := [vp, vx]) (RelL.cons hp (RelL.cons hx ⟨rfl, fun i sv v h => by simp at h⟩))
    split at h
    · rename_i p' x'
      obtain ⟨sv, Φ2, w', hk, hrun, he, s2⟩ := storeK_sound h s' (hv.2 0 _ _ rfl rfl) (hv.2 1 _ _ rfl rfl)
      exact ⟨sv, _, _, _, _, hk, hrun, he, s2, hD⟩
    · exact h.elim
  · obtain ⟨sv, Φ2, w', hk, hrun, he, s2⟩ := storeK_sound h s hp hx
    exact ⟨sv, _, _, _, _, hk, hrun, he, s2, fun _ h => h⟩
end Go.Vc

namespace Go.Vc
set_option autoImplicit false
set_option linter.unusedVariables false
set_option linter.unusedSimpArgs false

theorem makeMapK_sound {B : Base} {e N r β σ Φ a w n t} {K : EK} (h : makeMapK B t σ Φ n K) (st : Sat B e N r β σ Φ a w) :
    ∃ sv Φ' n' v w' β', K sv σ Φ' n' ∧ (∀ rv, (rv = none ∨ ∃ k i, rv = some (Value.int k i)) → (Instr.makeMap t rv).run B.P w = .ok v w') ∧ Rel r β' sv v ∧ Sat B e N r β' σ Φ' a w' := by
  unfold makeMapK at h
  split at h
  · rename_i kt el hu
    split at h
    · rename_i τ hty
      have key : ∃ κ, newChK n (.mp κ τ []) (.mref n) σ Φ K := by
        unfold keyTyOf at h
        split at h
        · exact ⟨_, h⟩
        · exact ⟨_, h⟩
        · exact ⟨_, h⟩
        · exact h.elim
      obtain ⟨κ, h⟩ := key
      obtain ⟨sv, σ', Φ', n', hk, rfl, β', hr, hs⟩ := newChK_sound h st (Grows.alloc w (.map #[] 0)) (v := .map (some w.heap.size))
        (fun b hb => by simp [Chunk.blk] at hb; omega)
        (.mp rfl heap_alloc_eq rfl (fun i k v e q => by simp at q) (fun i k v e q => by simp at q) (fun i e q => by simp at q) (by simp)) (.mref (setB_self _ _ _))
      refine ⟨sv, Φ', n', _, _, β', hk, fun rv hrv => ?_, hr, hs⟩
      rcases hrv with rfl | ⟨k, i, rfl⟩
      · simp [Instr.makeMap]
      · simp [Instr.makeMap, run_underlying hu, asInt, asIntOf]
    · exact h.elim
  · exact h.elim

theorem mapSetK_sound {B : Base} {e N r β σ Φ a w n t} {m k x : SV} {vm vk vx : Value} {K : EK} (h : mapSetK B t m k x σ Φ n K) (s : Sat B e N r β σ Φ a w) (hm : Rel r β m vm) (hk : Rel r β k vk) (hx : Rel r β x vx) :
    ∃ sv Φ' w', K sv σ Φ' n ∧ (Instr.mapUpdate t vm vk vx).run B.P w = .ok () w' ∧ sv = .und ∧ Sat B e N r β σ Φ' a w' := by
  unfold mapSetK at h
  split at h
  · rename_i kt el id hu
    split at h
    · rename_i κ τ l hg
      cases hko : (keyTyOk B kt κ && x.one) with
      | false => rw [hko] at h; exact h.elim
      | true =>
        rw [hko] at h
        simp only [Bool.and_eq_true] at hko
        have hKO := keyTyOk_ok hko.1
        obtain ⟨key, h, hkey⟩ := decKeyK_sound h
        obtain ⟨av, h, hent⟩ := dec1K_sound h
        obtain ⟨Φ', hK, hΦ⟩ := setPK_sound h (hasId_of hg)
        obtain rfl := hkey _ _ _ hk
        cases hm with
        | mref hβ =>
        rename_i b
        have hs := s.mem.chs _ _ hg
        cases hs with
        | mp hxb hw hl hks hvs hb hn =>
        rename_i b' es clock
        rw [hβ] at hxb
        obtain rfl : b = b' := by simpa using hxb
        have hlt := lt_of_heap hw
        obtain ⟨sv1, henc⟩ : ∃ sv1, τ.enc av = [sv1] := by
          have := hent.1
          exact List.length_eq_one_iff.1 (by rw [this]; rfl)
        rw [henc] at hent
        have hnew : ∃ sv, τ.enc av = [sv] ∧ sv.one = true ∧ Rel r β0 sv vx :=
          ⟨sv1, henc, enc_one τ av 0 sv1 (by rw [henc]; rfl), ((hent.2 0 x sv1 rfl rfl).1 _ _ _ hx).pure (enc_pure τ av 0 sv1 (by rw [henc]; rfl)) _⟩
        have hT : ∀ o, Turns w { w with heap := w.heap.setIfInBounds b o } b := fun o => ⟨rfl, rfl, rfl, by simp, fun b' hb' => by
          show (w.heap.setIfInBounds b o)[b']? = _
          rw [Array.getElem?_setIfInBounds_ne (Ne.symm hb')]⟩
        have hat : ∀ o, ({ w with heap := w.heap.setIfInBounds b o } : World).heap[b]? = some o := fun o => by
          show (w.heap.setIfInBounds b o)[b]? = _
          rw [Array.getElem?_setIfInBounds_self_of_lt hlt]
        rcases hKO.find key l es.toList (by simpa using hl) (fun i k' v e q1 q2 => hks i k' v e q1 (by simpa using q2)) with ⟨a1, a2, a3, _⟩ | ⟨j, v, e1, a1, a2, a3, a4, a5, _⟩
        · rw [a3] at hΦ
          refine ⟨_, Φ', { w with heap := w.heap.setIfInBounds b (.map (es.push { key := κ.val key, val := vx, born := clock }) (clock + 1)) }, hK, ?_, rfl,
            sat_upd s hg hΦ (hT _) (by rw [hβ]; rfl) (by rw [hβ]; rfl) ?_ rfl⟩
          · simp only [Instr.mapUpdate, Sem.run_bind, run_underlying hu, Result.andThen_ok, MapKept.run_getObj_map hw, hKO.check, a2, MapKept.run_setObj_map _ hw]
          · refine .mp hβ (hat _) (by simp [hl]) (fun i k v e q1 q2 => ?_) (fun i k v e q1 q2 => ?_) (fun i e q => ?_) ?_
            · rw [Array.getElem?_push] at q2
              rw [List.getElem?_append] at q1
              by_cases hi : i < l.length
              · rw [if_pos hi] at q1; rw [if_neg (by omega)] at q2; exact hks i k v e q1 q2
              · rw [if_neg hi] at q1
                have hi2 : i - l.length = 0 := by have := lt_len q1; simp at this; omega
                rw [hi2] at q1
                rw [if_pos (by omega)] at q2
                simp at q1 q2
                rw [← q2, ← q1.1]
            · rw [Array.getElem?_push] at q2
              rw [List.getElem?_append] at q1
              by_cases hi : i < l.length
              · rw [if_pos hi] at q1; rw [if_neg (by omega)] at q2; exact hvs i k v e q1 q2
              · rw [if_neg hi] at q1
                have hi2 : i - l.length = 0 := by have := lt_len q1; simp at this; omega
                rw [hi2] at q1
                rw [if_pos (by omega)] at q2
                simp at q1 q2
                rw [← q2, ← q1.2]
                exact hnew
            · rw [Array.getElem?_push] at q
              split at q
              · simp at q; rw [← q]; exact Nat.lt_succ_self _
              · exact Nat.lt_succ_of_lt (hb i e q)
            · rw [Array.toList_push, List.pairwise_append]
              refine ⟨hn, by simp, fun x hx' y hy => ?_⟩
              simp at hy
              subst hy
              obtain ⟨i, hi, rfl⟩ := List.getElem_of_mem hx'
              have := hb i es[i] (by simp)
              simp
              simp at this hi ⊢
              omega
        · rw [a5] at hΦ
          refine ⟨_, Φ', { w with heap := w.heap.setIfInBounds b (.map (es.modify j fun e => { e with key := κ.val key, val := vx }) clock) }, hK, ?_, rfl,
            sat_upd s hg hΦ (hT _) (by rw [hβ]; rfl) (by rw [hβ]; rfl) ?_ rfl⟩
          · have a3' : es[j]? = some e1 := by simpa using a3
            have hkk : e1.key = κ.val key := hks j key v e1 a1 a3'
            simp only [Instr.mapUpdate, Sem.run_bind, run_underlying hu, Result.andThen_ok, MapKept.run_getObj_map hw, hKO.check, a4, a3', Option.map_some, Option.getD_some, hkk, Instr.keyThatStays, hKO.bits, if_true, Sem.run_pure, MapKept.run_setObj_map _ hw]
          · have hmod : ∀ (i : Nat) e, (es.modify j fun e => { e with key := κ.val key, val := vx })[i]? = some e → ∃ e0, es[i]? = some e0 ∧ e.born = e0.born ∧ (i = j → e.key = κ.val key ∧ e.val = vx) ∧ (i ≠ j → e = e0) := by
              intro i e q
              rw [Array.getElem?_modify] at q
              by_cases hij : j = i
              · subst hij
                rw [if_pos rfl] at q
                cases he : es[j]? with
                | none => rw [he] at q; cases q
                | some e0 => rw [he] at q; simp at q; subst q; exact ⟨e0, rfl, rfl, fun _ => ⟨rfl, rfl⟩, fun h => (h rfl).elim⟩
              · rw [if_neg hij] at q
                exact ⟨e, q, rfl, fun h => (hij h.symm).elim, fun _ => rfl⟩
            have hset : ∀ (i : Nat) k v, (l.set j (key, av))[i]? = some (k, v) → (i = j ∧ k = key ∧ v = av) ∨ (i ≠ j ∧ l[i]? = some (k, v)) := by
              intro i k v q
              rw [List.getElem?_set] at q
              by_cases hij : j = i
              · subst hij
                rw [if_pos rfl] at q
                split at q
                · simp at q; exact .inl ⟨rfl, q.1.symm, q.2.symm⟩
                · cases q
              · rw [if_neg hij] at q; exact .inr ⟨fun h => hij h.symm, q⟩
            refine .mp hβ (hat _) (by simp [hl]) (fun i k v e q1 q2 => ?_) (fun i k v e q1 q2 => ?_) (fun i e q => ?_) ?_
            · obtain ⟨e0, p1, p2, p3, p4⟩ := hmod i e q2
              rcases hset i k v q1 with ⟨rfl, rfl, rfl⟩ | ⟨hij, q1⟩
              · exact (p3 rfl).1
              · rw [p4 hij]; exact hks i k v e0 q1 p1
            · obtain ⟨e0, p1, p2, p3, p4⟩ := hmod i e q2
              rcases hset i k v q1 with ⟨rfl, rfl, rfl⟩ | ⟨hij, q1⟩
              · rw [(p3 rfl).2]; exact hnew
              · rw [p4 hij]; exact hvs i k v e0 q1 p1
            · obtain ⟨e0, p1, p2, _⟩ := hmod i e q
              rw [p2]; exact hb i e0 p1
            · have hmap : (es.modify j fun e => { e with key := κ.val key, val := vx }).toList.map (·.born) = es.toList.map (·.born) := by
                apply List.ext_getElem?
                intro i
                simp only [List.getElem?_map, Array.getElem?_toList, Array.getElem?_modify]
                by_cases hij : j = i
                · subst hij; cases es[j]? <;> simp
                · rw [if_neg hij]
              have h1 : (es.toList.map (·.born)).Pairwise (· ≠ ·) := List.pairwise_map.2 hn
              rw [← hmap] at h1
              exact List.pairwise_map.1 h1
    · exact h.elim
  · exact h.elim

theorem erase_toList {es : Array MapEntry} {j : Nat} : (es.eraseIdxIfInBounds j).toList = es.toList.eraseIdx j := by
  unfold Array.eraseIdxIfInBounds
  split
  · simp
  · rename_i h; rw [List.eraseIdx_of_length_le (by simpa using h)]
theorem mapDelK_sound {B : Base} {e N r β σ Φ a w n t} {m k : SV} {vm vk : Value} {K : EK} (h : mapDelK B t m k σ Φ n K) (s : Sat B e N r β σ Φ a w) (hm : Rel r β m vm) (hk : Rel r β k vk) (tk : TypeId) (ty : TypeId) :
    ∃ sv Φ' v w', K sv σ Φ' n ∧ (Builtin.delete_ #[t, tk] ty #[vm, vk]).run B.P w = .ok v w' ∧ sv = .und ∧ Sat B e N r β σ Φ' a w' := by
  unfold mapDelK at h
  split at h
  · rename_i kt el id hu
    split at h
    · rename_i κ τ l hg
      cases hko : keyTyOk B kt κ with
      | false => rw [hko] at h; exact h.elim
      | true =>
        rw [hko] at h
        have hK := keyTyOk_ok hko
        obtain ⟨key, h, hkey⟩ := decKeyK_sound h
        obtain ⟨Φ', hK', hΦ⟩ := setPK_sound h (hasId_of hg)
        obtain rfl := hkey _ _ _ hk
        cases hm with
        | mref hβ =>
        rename_i b
        have hs := s.mem.chs _ _ hg
        cases hs with
        | mp hxb hw hl hks hvs hb hn =>
        rename_i b' es clock
        rw [hβ] at hxb
        obtain rfl : b = b' := by simpa using hxb
        have hlt := lt_of_heap hw
        have hT : ∀ o, Turns w { w with heap := w.heap.setIfInBounds b o } b := fun o => ⟨rfl, rfl, rfl, by simp, fun b' hb' => by
          show (w.heap.setIfInBounds b o)[b']? = _
          rw [Array.getElem?_setIfInBounds_ne (Ne.symm hb')]⟩
        have hat : ∀ o, ({ w with heap := w.heap.setIfInBounds b o } : World).heap[b]? = some o := fun o => by
          show (w.heap.setIfInBounds b o)[b]? = _
          rw [Array.getElem?_setIfInBounds_self_of_lt hlt]
        rcases hK.find key l es.toList (by simpa using hl) (fun i k' v e q1 q2 => hks i k' v e q1 (by simpa using q2)) with ⟨a1, a2, _, a3⟩ | ⟨j, v, e1, a1, a2, a3, a4, _, a5⟩
        · rw [a3] at hΦ
          refine ⟨_, Φ', .tuple #[], { w with heap := w.heap.setIfInBounds b (.map es clock) }, hK', ?_, rfl,
            sat_upd s hg hΦ (hT _) (by first | (rw [hβ]; done) | (rw [hβ]; rfl)) (by first | (rw [hβ]; done) | (rw [hβ]; rfl)) (.mp hβ (hat _) hl hks hvs hb hn) rfl⟩
          show (Builtin.delete_ #[t, tk] ty #[.map (some b), κ.val key]).run B.P w = _
          simp [Builtin.delete_, run_underlying hu, MapKept.run_getObj_map hw, hK.check, a2, MapKept.run_setObj_map _ hw]
        · rw [a5] at hΦ
          refine ⟨_, Φ', .tuple #[], { w with heap := w.heap.setIfInBounds b (.map (es.eraseIdxIfInBounds j) clock) }, hK', ?_, rfl,
            sat_upd s hg hΦ (hT _) (by rw [hβ]; rfl) (by rw [hβ]; rfl) ?_ rfl⟩
          · show (Builtin.delete_ #[t, tk] ty #[.map (some b), κ.val key]).run B.P w = _
            simp [Builtin.delete_, run_underlying hu, MapKept.run_getObj_map hw, hK.check, a4, MapKept.run_setObj_map _ hw]
          · have hget : ∀ (i : Nat) e, (es.eraseIdxIfInBounds j)[i]? = some e → ∃ i' : Nat, es[i']? = some e ∧ ∀ x, (l.eraseIdx j)[i]? = some x → l[i']? = some x := by
              intro i e q
              rw [← Array.getElem?_toList, erase_toList, List.getElem?_eraseIdx] at q
              by_cases hij : i < j
              · rw [if_pos hij] at q
                exact ⟨i, by simpa using q, fun x hx => by rw [List.getElem?_eraseIdx, if_pos hij] at hx; exact hx⟩
              · rw [if_neg hij] at q
                exact ⟨i + 1, by simpa using q, fun x hx => by rw [List.getElem?_eraseIdx, if_neg hij] at hx; exact hx⟩
            have hjl := lt_len a1
            refine .mp hβ (hat _) ?_ (fun i k v e q1 q2 => ?_) (fun i k v e q1 q2 => ?_) (fun i e q => ?_) ?_
            · rw [← Array.length_toList, erase_toList, List.length_eraseIdx, List.length_eraseIdx]
              simp [hl]
            · obtain ⟨i', p1, p2⟩ := hget i e q2
              exact hks i' k v e (p2 _ q1) p1
            · obtain ⟨i', p1, p2⟩ := hget i e q2
              exact hvs i' k v e (p2 _ q1) p1
            · obtain ⟨i', p1, _⟩ := hget i e q
              exact hb i' e p1
            · rw [erase_toList]
              exact hn.sublist (List.eraseIdx_sublist ..)
    · exact h.elim
  · exact h.elim
theorem mapLenK_sound {B : Base} {e N r β σ Φ a w n t} {m : SV} {vm : Value} {K : EK} (h : mapLenK B t m σ Φ n K) (s : Sat B e N r β σ Φ a w) (hm : Rel r β m vm) (ty : TypeId) :
    ∃ sv v, K sv σ Φ n ∧ (Builtin.len_ #[t] ty #[vm]).run B.P w = .ok v w ∧ Rel r β sv v := by
  unfold mapLenK at h
  split at h
  · rename_i kt el id hu
    split at h
    · rename_i κ τ l hg
      obtain ⟨⟨hle⟩, hK⟩ := h
      cases hm with
      | mref hβ =>
      rename_i b
      have hs := s.mem.chs _ _ hg
      cases hs with
      | mp hxb hw hl hks hvs hb hn =>
      rename_i b' es clock
      rw [hβ] at hxb
      obtain rfl : b = b' := by simpa using hxb
      refine ⟨_, .int .i64 l.length, hK, ?_, .int⟩
      simp [Builtin.len_, run_underlying hu, MapKept.run_getObj_map hw, hl, goInt]
    · exact h.elim
  · exact h.elim

/-- bytes, as they lie -/
inductive BytesAt (w : World) (v : Value) (l : List UInt8) : Prop
  | nil (a : Option Addr) (cap : Nat) (hv : v = .slice a 0 cap) (hl : l = [])
  | row (b off cap : Nat) (c : Array Value) (T : TypeId) (fr : Nat × Nat) (hv : v = .slice (some ⟨b, off, none⟩) l.length cap) (hw : w.heap[b]? = some (.cells c T fr)) (hc : ∀ (j : Nat) x, l[j]? = some x → c[off + j]? = some (.int .u8 x.toNat))
theorem bytes_cells {r : Mem} {l : List UInt8} {c : Array Value} {off : Nat} (hlen : off + l.length ≤ c.size)
    (h : ∀ (i : Nat) (row : List SV) (j : Nat) (sv : SV) (v : Value), (l.map (Ty.enc .byte))[i]? = some row → row[j]? = some sv → c[off + i * 1 + j]? = some v → Rel r β0 sv v) :
    ∀ (j : Nat) x, l[j]? = some x → c[off + j]? = some (.int .u8 x.toNat) := by
  intro j x hj
  have hjl := lt_len hj
  have hin : off + j < c.size := by omega
  have hv : c[off + j * 1 + 0]? = some c[off + j] := by simp [hin]
  have := h j [.int .u8 x.toNat] 0 _ _ (by rw [List.getElem?_map, hj]; rfl) rfl hv
  rw [Array.getElem?_eq_getElem hin]
  generalize c[off + j] = u at this
  cases this; rfl
theorem rowsAt_bytes {r w x bt} {l : List UInt8} (h : RowsAt r w x bt 1 (l.map (Ty.enc .byte))) : BytesAt w x l ∧ l.length ≤ 9223372036854775807 := by
  rcases h with ⟨a, rfl, hl⟩ | ⟨b, off, cap, c, T, fr, rfl, h1, h2, h3, h4, h5, h6, h7, h8, h9⟩
  · have : l = [] := by simpa using hl
    subst this
    exact ⟨.nil a 0 rfl rfl, by simp⟩
  · rw [List.length_map] at h5
    refine ⟨.row b off cap c T fr (by rw [List.length_map]) h2 (bytes_cells (by omega) h9), by omega⟩
theorem lits_bytes {r β w x} {l : List UInt8} (hvis : ∀ b o, r b = some o → w.heap[b]? = some o) (h : Rel r β (.lits 1 (l.map (Ty.enc .byte))) x) : BytesAt w x l ∧ l.length ≤ 9223372036854775807 := by
  generalize hm : l.map (Ty.enc .byte) = rows at h
  cases h with
  | litsE =>
    have : l = [] := by simpa using hm
    subst this
    exact ⟨.nil _ _ rfl rfl, by simp⟩
  | lits hb hn hcap hrow ho hc hr =>
    subst hm
    rw [List.length_map] at *
    exact ⟨.row _ _ _ _ _ _ rfl (hvis _ _ hb) (bytes_cells (by omega) hr), hn⟩
theorem run_bytes_back {P : Program} {w : World} {s d e : TypeId} {v : Value} {l : List UInt8} (hs : P.underlying s = some (.slice e)) (he : P.underlying e = some (.int .u8)) (hd : P.underlying d = some .string) (h : BytesAt w v l) :
    (Go.convert s d v).run P w = .ok (.string ⟨l.toArray⟩) w := by
  cases h with
  | nil a cap hv hl =>
    subst hv; subst hl
    cases a with
    | none => rw [run_convert_bytes_string w s d e none 0 cap hs he hd]; rfl
    | some a => exact run_convert_bytes_back w s d e a cap [] hs he hd (fun j hj => by simp at hj)
  | row b off cap c T fr hv hw hc =>
    subst hv
    refine run_convert_bytes_back w s d e ⟨b, off, none⟩ cap l hs he hd fun j hj => ?_
    rw [add_mk, cell_of_block hw]
    exact hc j l[j] (List.getElem?_eq_getElem hj)

theorem convBK_sound {B : Base} {e N r β σ Φ a w n s d} {x : SV} {vx : Value} {K : EK} (h : convBK B s d x σ Φ n K) (st : Sat B e N r β σ Φ a w) (hx : Rel r β x vx) :
    ∃ sv Φ' n' v w' β', K sv σ Φ' n' ∧ (Go.convert s d vx).run B.P w = .ok v w' ∧ Rel r β' sv v ∧ Sat B e N r β' σ Φ' a w' := by
  unfold convBK at h
  split at h
  · rename_i el l hs hd
    split at h
    · rename_i he
      cases hx with
      | str hl =>
      have hz : (ByteArray.mk l.toArray).size = l.length := by simp [ByteArray.size]
      have hge : l.length ≤ grownCap w l.length 0 el := grownCap_ge w _ _ _
      have hle : grownCap w l.length 0 el ≤ 9223372036854775807 := grownCap_le_maxLen w _ _ _ (by show l.length ≤ 2 ^ 63 - 1; omega)
      have hrun := run_bytes_of_string (P := B.P) w s d el ⟨l.toArray⟩ hs hd he
      rw [hz] at hrun
      generalize hcap : grownCap w l.length 0 el = cap at hrun hge hle
      have hcz : (bytesRow ⟨l.toArray⟩ cap).size = cap := by
        unfold bytesRow
        have : (ByteArray.mk l.toArray).data.size = l.length := by simp
        simp [hz]; omega
      have hg : Grows w (w.drew.alloc (.cells (bytesRow ⟨l.toArray⟩ cap) el ((bytesRow ⟨l.toArray⟩ cap).size, (bytesRow ⟨l.toArray⟩ cap).size + 1))) :=
        ⟨rfl, rfl, rfl, by show w.heap.size ≤ (w.heap.push _).size; simp, fun b hb => by show (w.heap.push _)[b]? = _; rw [Array.getElem?_push, if_neg (by omega)]⟩
      have hrows : RowsAt r (w.drew.alloc (.cells (bytesRow ⟨l.toArray⟩ cap) el ((bytesRow ⟨l.toArray⟩ cap).size, (bytesRow ⟨l.toArray⟩ cap).size + 1))) (.slice (some ⟨w.heap.size, 0, none⟩) l.length cap) true 1 (l.map (Ty.enc .byte)) := by
        by_cases h0 : cap = 0
        · have : l = [] := List.length_eq_zero_iff.1 (by omega)
          subst this
          exact .inl ⟨_, by rw [h0]; rfl, rfl⟩
        · refine .inr ⟨w.heap.size, 0, cap, _, el, _, by rw [List.length_map], h0, ?_, .inr ⟨rfl, rfl⟩, hle, by rw [List.length_map]; exact hge, by rw [hcz]; omega, fun i row h => ?_, fun i row j sv h1 h2 => (by
              obtain ⟨y, hy, rfl⟩ : ∃ y, l[i]? = some y ∧ Ty.enc .byte y = row := by
                rw [List.getElem?_map] at h1
                cases hq : l[i]? with
                | none => rw [hq] at h1; cases h1
                | some y => rw [hq] at h1; exact ⟨y, rfl, by simpa using h1⟩
              exact enc_one .byte y j sv h2), fun i row j sv v h1 h2 h3 => ?_⟩
          · show (w.heap.push _)[w.heap.size]? = _
            simp
          · rw [List.getElem?_map] at h
            cases hq : l[i]? with
            | none => rw [hq] at h; cases h
            | some y => rw [hq] at h; simp at h; rw [← h]; rfl
          · rw [List.getElem?_map] at h1
            cases hq : l[i]? with
            | none => rw [hq] at h1; cases h1
            | some y =>
              rw [hq] at h1
              simp at h1
              subst h1
              cases j with
              | succ j => simp [Ty.enc] at h2
              | zero =>
                simp [Ty.enc] at h2
                subst h2
                have hil := lt_len hq
                have := bytesRow_at ⟨l.toArray⟩ cap i (by simpa using hil)
                have e : 0 + i * 1 + 0 = i := by omega
                rw [e, this] at h3
                simp at h3
                subst h3
                have hy : l[i] = y := by rw [List.getElem?_eq_getElem hil] at hq; simpa using hq
                rw [hy]
                exact .int
      obtain ⟨sv, σ', Φ', n', hk, rfl, β', hr, hsat⟩ := newChK_sound h st hg (v := .slice (some ⟨w.heap.size, 0, none⟩) l.length cap)
        (fun b hb => by
          simp only [Chunk.blk] at hb
          cases hq : Nat.beq cap 0 with
          | true => rw [hq] at hb; cases hb
          | false => rw [hq] at hb; simp at hb; omega) (.own hrows) (own_rel rfl)
      exact ⟨sv, Φ', n', _, _, β', hk, hrun, hr, hsat⟩
    · exact h.elim
  · rename_i el id hs hd
    split at h
    · rename_i τ l he hg
      obtain ⟨rfl, h⟩ := castK_sound h
      have hs' := st.mem.rowsR hg
      cases hs' with
      | own hrows =>
        obtain ⟨h1, h2⟩ := rowsAt_bytes hrows
        cases hx
        exact ⟨_, Φ, n, _, w, β, h, run_bytes_back hs he hd h1, .str h2, st⟩
    · exact h.elim
  · rename_i el τ l hs hd
    split at h
    · rename_i he
      obtain ⟨rfl, h⟩ := castK_sound h
      cases hx with
      | rd hx =>
        obtain ⟨h1, h2⟩ := lits_bytes st.mem.vis hx
        exact ⟨_, Φ, n, _, w, β, h, run_bytes_back hs he hd h1, .str h2, st⟩
    · exact h.elim
  · rename_i el hs hd
    split at h
    · rename_i he
      cases hx
      exact ⟨_, Φ, n, _, w, β, h, run_bytes_back hs he hd (.nil none 0 rfl rfl), .str (by simp), st⟩
    · exact h.elim
  · obtain ⟨sv, hk, hr⟩ := evConv_sound (P := B.P) h
    obtain ⟨v, hv, hw⟩ := hr (fun _ h => h) r β _ hx
    exact ⟨sv, Φ, n, v, w, β, hk, hw w, hv, st⟩
end Go.Vc

namespace Go.Vc
set_option autoImplicit false
set_option linter.unusedVariables false
set_option linter.unusedSimpArgs false

theorem cutK_sound {B : Base} {e N r β σ Φ a w n t id hi} {vh : Value} {K : EK} (h : cutK B t id hi σ Φ n K) (st : Sat B e N r β σ Φ a w) (hh : Rel r β hi vh) :
    ∃ sv σ' Φ' n' v β', K sv σ' Φ' n' ∧ (Instr.sliceAt t (β id) none (some vh) none).run B.P w = .ok v w ∧ Rel r β' sv v ∧ Sat B e N r β' σ' Φ' a w ∧ (∀ D, GdIn D σ → GdIn D σ') := by
  unfold cutK at h
  split at h
  · rename_i el τ l k b hu hg
    cases hz : szOk B.P el τ.size with
    | false => rw [hz] at h; exact h.elim
    | true =>
    rw [hz] at h
    obtain ⟨hts, hi⟩ := szOk_spec hz
    obtain ⟨hob, h⟩ := h
    obtain ⟨hb0, hb1⟩ := hob.h
    obtain ⟨σ', h, hσ⟩ := staleE_sound h
    obtain ⟨Φ1, h, hΦ1⟩ := staleP_sound h
    obtain ⟨c1, hc1'⟩ := (hΦ1 id).2 _ hg
    obtain ⟨Φ', hk, hΦ⟩ := setPK_sound h (hasId_of hc1')
    cases hh
    obtain ⟨i, hi⟩ := Option.ne_none_iff_exists'.1 hi
    have hs := st.mem.rows hg
    cases hs with
    | own hrs =>
      -- the slice's value
      have key : ∃ a0 cap, β id = .slice a0 l.length cap ∧ l.length ≤ cap ∧ RowsAt r w (.slice a0 b.toNat cap) τ.isB τ.size ((l.take b.toNat).map τ.enc) ∧ (∀ bb, blkOf (.slice a0 b.toNat cap) = some bb → blkOf (β id) = some bb) ∧ a0.map (·.add 0) = a0 := by
        rcases hrs with ⟨a0, he, hl⟩ | ⟨bb, off, cap, c, T, fr, he, hc0, hw, hfr, hm, hcap, hsz, hrow, hone, hrr⟩
        · have hl : l = [] := by simpa using hl
          subst hl
          have hb : b.toNat = 0 := by simp at hb1; omega
          refine ⟨a0, 0, he, by simp, .inl ⟨a0, by rw [hb], by simp⟩, fun bb hbb => by (unfold blkOf at hbb; cases a0 <;> cases hbb), ?_⟩
          cases a0 with
          | none => rfl
          | some a0 => simp [Addr.add]
        · have hlen : (l.map τ.enc).length = l.length := by simp
          rw [hlen] at he hcap
          have htk : ((l.take b.toNat).map τ.enc).length = b.toNat := by simp; omega
          refine ⟨_, cap, he, hcap, .inr ⟨bb, off, cap, c, T, fr, by rw [htk], hc0, hw, hfr, hm, by omega, hsz, ?_, ?_, ?_⟩, fun b' hb' => by rw [he]; exact hb', by simp [Addr.add]⟩
          · intro k row hk; rw [List.map_take, List.getElem?_take] at hk; split at hk <;> first | exact hrow k row hk | cases hk
          · intro k row j sv hk; rw [List.map_take, List.getElem?_take] at hk; split at hk <;> first | exact hone k row j sv hk | cases hk
          · intro k row j sv v hk; rw [List.map_take, List.getElem?_take] at hk; split at hk <;> first | exact hrr k row j sv v hk | cases hk
      obtain ⟨a0, cap, he, hcap, hR, hblk, hadd⟩ := key
      have hsb := run_sliceBounds (P := B.P) (s := true) (len := l.length) (cap := cap) (lo := none) (hi := some (.int k b)) (a := 0) (b := b.toNat) w ⟨k, b, rfl, hb0, by omega, rfl⟩ rfl
      have hrun : (Instr.sliceAt t (β id) none (some (.int k b)) none).run B.P w = .ok (.slice a0 b.toNat cap) w := by
        rw [he]
        simp [Instr.sliceAt, Instr.slice, run_underlying hu, hsb, run_sizeOf hi, hadd]
      refine ⟨_, σ', Φ', n, _, _, hk, hrun, ?_, sat_head (ch' := .own τ (l.take b.toNat)) (v' := .slice a0 b.toNat cap) st hg hσ hΦ1 hΦ rfl rfl rfl (Nat.le_refl _) (fun _ _ _ => rfl) (fun bb hbb => by rw [blk_own_eq] at hbb ⊢; exact .inl (hblk bb hbb)) (.own hR) rfl, fun D hD k s0 w0 sv0 hk0 => ?_⟩
      · exact own_rel hR.oneCell
      · obtain ⟨sv, q1, _⟩ := hσ k _ sv0 hk0
        exact hD k s0 w0 sv q1
  · exact h.elim

theorem tailK_sound {B : Base} {e N r β σ Φ a w n t id lo} {vl : Value} {K : EK} (h : tailK B t id lo σ Φ n K) (st : Sat B e N r β σ Φ a w) (hh : Rel r β lo vl) :
    ∃ sv v, K sv σ Φ n ∧ (Instr.sliceAt t (β id) (some vl) none none).run B.P w = .ok v w ∧ Rel r β sv v := by
  unfold tailK at h
  split at h
  · rename_i el τ l k b hu hg
    cases hz : szOk B.P el τ.size with
    | false => rw [hz] at h; exact h.elim
    | true =>
    rw [hz] at h
    obtain ⟨hts, hi⟩ := szOk_spec hz
    obtain ⟨hob, h⟩ := h
    obtain ⟨hb0, hb1⟩ := hob.h
    cases hh
    obtain ⟨i, hi⟩ := Option.ne_none_iff_exists'.1 hi
    have hs := st.mem.rows hg
    cases hs with
    | own hrs =>
      obtain ⟨a0, cap, he, hcap⟩ : ∃ a0 cap, β id = .slice a0 l.length cap ∧ l.length ≤ cap := by
        rcases hrs with ⟨a0, he, hl⟩ | ⟨bb, off, cap, c, T, fr, he, hc0, hw, hfr, hm, hcap, hsz, hrow, hone, hrr⟩
        · have hl : l = [] := by simpa using hl
          subst hl
          exact ⟨a0, 0, he, by simp⟩
        · exact ⟨_, cap, by simpa using he, by simpa using hcap⟩
      have hsb := run_sliceBounds (P := B.P) (s := true) (len := l.length) (cap := cap) (lo := some (.int k b)) (hi := none) (a := b.toNat) (b := l.length) w rfl ⟨k, b, rfl, hb0, by omega, rfl⟩
      refine ⟨_, _, h, ?_, .otl he (by omega) hcap⟩
      rw [he]
      have hs1 : i.size = τ.size := by rw [← hts, sizeT_run hi]
      simp [Instr.sliceAt, Instr.slice, run_underlying hu, hsb, run_sizeOf hi, hs1]
      have : (cap = b.toNat) ↔ (cap ≤ b.toNat) := by omega
      split <;> split <;> first | rfl | (exfalso; omega)
  · exact h.elim

theorem zeroCells_one (z : Value) (n : Nat) : (Builtin.zeroCells #[z] n).toList = List.replicate n z := by
  simp [Builtin.zeroCells]
  apply List.ext_getElem
  · simp
  · intro i h1 h2
    simp [Nat.mod_one]

theorem clearK_sound {B : Base} {e N r β σ Φ a w n t ty x} {vx : Value} {K : EK} (h : clearK B t x σ Φ n K) (st : Sat B e N r β σ Φ a w) (hx : Rel r β x vx) :
    ∃ sv Φ' v w', K sv σ Φ' n ∧ (Builtin.clear_ #[t] ty #[vx]).run B.P w = .ok v w' ∧ Rel r β sv v ∧ Sat B e N r β σ Φ' a w' := by
  unfold clearK at h
  split at h
  · rename_i el id sz k hu
    split at h
    · rename_i τ l hg
      cases hz : (szOk B.P el τ.size && (Nat.beq τ.size 1 && Nat.beq sz 1)) with
      | false => rw [hz] at h; exact h.elim
      | true =>
      rw [hz] at h
      simp only [Bool.and_eq_true] at hz
      obtain ⟨hz1, hz2, hz3⟩ := hz
      have hτ := beq_of hz2
      have hsz := beq_of hz3
      simp only [cond_true] at h
      obtain ⟨z, zv, h, hzo, _, hzrun, hzrel⟩ := zeroK_sound h
      cases hz4 : Nat.beq (len z) 1 with
      | false => rw [hz4] at h; exact h.elim
      | true =>
      rw [hz4] at h
      have hzl := beq_of hz4
      rw [len_eq] at hzl
      obtain ⟨d, h, hent⟩ := dec1K_sound h
      obtain ⟨Φ', hk, hΦ⟩ := setPK_sound h (hasId_of hg)
      cases hx with
      | otl hβ hkn hnc =>
        rename_i n0 cap a0
        have hs := st.mem.rows hg
        obtain ⟨c1, hzc⟩ : ∃ c1, zv.cells = #[c1] := by
          have := (hzrel r β).1
          rw [hzl] at this
          have h1 : zv.cells.size = 1 := by simpa using this
          exact ⟨zv.cells[0], by apply Array.ext (by simp [h1]); intro i h2 h3; simp at h3; subst h3; rfl⟩
        have hc1 : ∃ sv0, z = [sv0] ∧ ∀ r β, Rel r β sv0 c1 := by
          match z, hzl with
          | [sv0], _ => exact ⟨sv0, rfl, fun r β => (hzrel r β).2 0 sv0 c1 rfl (by rw [hzc]; rfl)⟩
        obtain ⟨sv0, rfl, hsv0⟩ := hc1
        have hone1 : c1.oneCell' = true := RelL.ones (hzrel r β) hzo c1 (by rw [hzc]; simp)
        obtain ⟨sv1, hsv1, hrel1⟩ : ∃ sv1, τ.enc d = [sv1] ∧ ∀ r β, Rel r β sv1 c1 := by
          have hlen : (τ.enc d).length = 1 := by rw [enc_len, hτ]
          match hq : τ.enc d, hlen with
          | [sv1], _ => exact ⟨sv1, rfl, fun r β => (hent.2 0 sv0 sv1 rfl (by rw [hq]; rfl)).1 r β c1 (hsv0 r β)⟩
        cases hs with
        | own hrs =>
          by_cases hnk : n0 - k = 0
          · -- nothing to do
            have hll : l.take k ++ List.replicate (l.length - k) d = l := by
              have hln : l.length = n0 := by
                rcases hrs with ⟨a1, he, hl⟩ | ⟨bb, off, cap', c, T, fr, he, hc0, hw, hfr, hm, hcap, hszc, hrow, hone, hrr⟩
                · rw [he] at hβ; simp at hβ
                  have hl : l = [] := by simpa using hl
                  subst hl; simp; exact hβ.2.1
                · rw [he] at hβ; simp at hβ; exact hβ.2.1
              rw [show l.length - k = 0 by omega, List.take_of_length_le (by omega)]; simp
            rw [hll] at hΦ
            refine ⟨_, Φ', .tuple #[], w, hk, ?_, ?_, ?_⟩
            · rw [hnk]
              generalize (if cap - k = 0 then a0 else a0.map (·.add (k * sz))) = a1
              cases a1 <;> simp [Builtin.clear_, run_underlying hu]
            · exact .tup (cs := []) rfl fun i sv v h => by simp at h
            · have same : ∀ j, Phi.get Φ' j = Phi.get Φ j := by
                intro j; rw [hΦ]
                cases hq : Nat.beq id j with
                | true => obtain rfl := beq_of hq; exact hg.symm
                | false => rfl
              have hpk : ∀ j c, Phi.get Φ' j = some c → Phi.get Φ j = some c := fun j c h => by rw [← same]; exact h
              refine ⟨st.agree, ⟨st.mem.vis, fun j c h => st.mem.chs _ _ (hpk _ _ h), fun j c b h1 h2 => st.mem.sep _ _ _ (hpk _ _ h1) h2, fun j j' c c' b h1 h2 h3 h4 => st.mem.nod _ _ _ _ _ (hpk _ _ h1) (hpk _ _ h2) h3 h4⟩, st.G, ?_, ?_, st.size⟩
              · obtain ⟨k1, k2, k3, k4, k5, k6, k7, k8⟩ := st.kept
                exact ⟨k1, k2, k3, k4, k5, fun b hb => ⟨(k6 b hb).1, (k6 b hb).2.1, fun j c h => (k6 b hb).2.2 j c (hpk _ _ h)⟩, fun j c h1 h2 => by
                  obtain ⟨p1, c', p2, p3⟩ := k7 j c h1 h2
                  exact ⟨p1, c', by rw [same]; exact p2, p3⟩, k8⟩
              · obtain ⟨Ds, d1, d2, d3⟩ := st.defers
                exact ⟨Ds, d1, d2, fun D hD => ⟨(d3 D hD).1, (d3 D hD).2.1, (d3 D hD).2.2.1, fun j c h => (d3 D hD).2.2.2 j c (hpk _ _ h)⟩⟩
          · rcases hrs with ⟨a1, he, hl⟩ | ⟨bb, off, cap', c, T, fr, he, hc0, hw, hfr, hm, hcap, hszc, hrow, hone, hrr⟩
            · rw [he] at hβ; simp at hβ; omega
            · have hβ' := hβ
              rw [he] at hβ
              simp only [Value.slice.injEq, List.length_map] at hβ
              obtain ⟨rfl, rfl, rfl⟩ := hβ
              simp only [List.length_map] at hcap
              have hck : ¬ (cap' - k = 0) := by omega
              rw [if_neg hck]
              rw [hτ] at hszc hrr
              rw [hsz]
              obtain ⟨cur', w', hr, q1, q2, q3, q4⟩ := run_storeCells (P := B.P) bb (off + k * 1) T fr (List.replicate (l.length - k) c1) 0 c w hw (by simp; omega) (fun v hv => by rw [List.eq_of_mem_replicate hv]; exact hone1) hfr.cell
              refine ⟨_, Φ', .tuple #[], w', hk, ?_, .tup (cs := []) rfl (fun i sv v h => by simp at h), sat_upd st hg hΦ q2 (blk_own he hc0) (by rw [blk_own he hc0, blk_own he hc0]) ?_ rfl⟩
              · obtain ⟨m, hm'⟩ : ∃ m, l.length - k = m + 1 := ⟨l.length - k - 1, by omega⟩
                have hst : (storeCells ⟨bb, off + k * 1, none⟩ (Builtin.zeroCells zv.cells (l.length - k)).toList).run B.P w = .ok () w' := by
                  rw [hzc, zeroCells_one]; exact hr
                rw [hm'] at hst ⊢
                simp only [Option.map_some, add_mk]
                simp [Builtin.clear_, run_underlying hu, hzrun]
                simp only [Nat.mul_one] at hst
                simp [hst]
              · refine .own (.inr ⟨bb, off, cap', cur', T, fr, by rw [he]; simp; omega, hc0, q1, hfr.turn q3, hm, by simp; omega, by rw [q3, hτ]; exact hszc, fun i row hi => ?_, fun i row j sv hi hj => ?_, fun i row j sv v hi hj hv => ?_⟩)
                · rw [List.getElem?_map] at hi
                  cases hq : (l.take k ++ List.replicate (l.length - k) d)[i]? with
                  | none => rw [hq] at hi; cases hi
                  | some y => rw [hq] at hi; simp at hi; rw [← hi, enc_len]
                · rw [List.getElem?_map] at hi
                  cases hq : (l.take k ++ List.replicate (l.length - k) d)[i]? with
                  | none => rw [hq] at hi; cases hi
                  | some y => rw [hq] at hi; simp at hi; rw [← hi] at hj; exact enc_one _ _ _ _ hj
                · rw [hτ] at hv
                  rw [List.getElem?_map, List.getElem?_append] at hi
                  have htl : (l.take k).length = k := by simp; omega
                  rw [htl] at hi
                  have hj0 : j = 0 := by
                    have h1 : row.length = 1 := by
                      split at hi
                      · cases hq : (l.take k)[i]? with
                        | none => rw [hq] at hi; cases hi
                        | some y => rw [hq] at hi; simp at hi; rw [← hi, enc_len, hτ]
                      · cases hq : (List.replicate (l.length - k) d)[i - k]? with
                        | none => rw [hq] at hi; cases hi
                        | some y => rw [hq] at hi; simp at hi; rw [← hi, enc_len, hτ]
                    have := lt_len hj; omega
                  subst hj0
                  rw [q4] at hv
                  simp only [List.length_replicate] at hv
                  by_cases hik : i < k
                  · rw [if_pos hik] at hi
                    rw [if_neg (by omega)] at hv
                    refine hrr i row 0 sv v ?_ hj hv
                    rw [List.getElem?_map]
                    rw [List.getElem?_take, if_pos hik] at hi
                    exact hi
                  · rw [if_neg hik] at hi
                    have hil : i - k < l.length - k := by
                      cases hq : (List.replicate (l.length - k) d)[i - k]? with
                      | none => rw [hq] at hi; cases hi
                      | some y => have := lt_len hq; simpa using this
                    rw [List.getElem?_replicate, if_pos hil] at hi
                    simp at hi
                    rw [← hi, hsv1] at hj
                    simp at hj
                    subst hj
                    rw [if_pos (by omega), List.getElem?_replicate, if_pos (by omega)] at hv
                    cases hv
                    exact hrel1 r β0
    · exact h.elim
  · exact h.elim
end Go.Vc

namespace Go.Vc
set_option autoImplicit false
set_option linter.unusedVariables false
set_option linter.unusedSimpArgs false

theorem eqPl_eq {x y : SV} (h : eqPl x y) : x = y := by
  unfold eqPl at h
  split at h
  · obtain ⟨rfl, rfl⟩ := h; rfl
  · rw [h]
  · rw [h]
  · exact h.elim
theorem eqPlL_eq : ∀ {xs ys : List SV}, eqPlL xs ys → xs = ys
  | [], [], _ => rfl
  | x :: r, y :: s, h => by rw [eqPl_eq h.1, eqPlL_eq h.2]
  | [], _ :: _, h => h.elim
  | _ :: _, [], h => h.elim
theorem eqPl1_eq {x y : SV} (h : eqPl1 x y) : x = y := by
  unfold eqPl1 at h
  split at h
  · rw [eqPlL_eq h]
  · exact eqPl_eq h
theorem eqPl1L_eq : ∀ {xs ys : List SV}, eqPl1L xs ys → xs = ys
  | [], [], _ => rfl
  | x :: r, y :: s, h => by rw [eqPl1_eq h.1, eqPl1L_eq h.2]
  | [], _ :: _, h => h.elim
  | _ :: _, [], h => h.elim

theorem YieldTo.mono {P : Program} {l : Nat} {vs : List Value} {w : World} {R R' : Ending → World → Prop} (h : YieldTo P l vs w R) (hr : ∀ e w', R e w' → R' e w') : YieldTo P l vs w R' := by
  obtain ⟨fn, tmps, assign, body, h1, h2⟩ := h
  exact ⟨fn, tmps, assign, body, h1, h2.mono hr⟩

/-- what is asked of the rounds: they keep all that is known -/
def YOk (B : Base) (F : Entry → Prop) (N : Nat) : Prop :=
  ∀ e r β σ Φ a w i vs, F e → Sat B e N r β σ Φ a w → Phi.get Φ GID = some (.gh (some i)) → i < B.Y.len → RelL r β (B.Y.at_ i) vs → freshE GID σ = true → freshQ GID Φ = true →
    YieldTo B.P B.Y.l vs w fun en w' => ∃ b, en = .returned (.bool b) ∧ ∃ e', F e' ∧
      ∀ Φ', (∀ j, Phi.get Φ' j = bif Nat.beq GID j then some (.gh (bif b then some (i + 1) else none)) else Phi.get Φ j) → ∃ β', Sat B e' N r β' σ Φ' a w'
theorem YOk.none {B : Base} {F : Entry → Prop} {N : Nat} (h : B.Y.len = 0) : YOk B F N := fun e r β σ Φ a w i vs _ _ _ hi => by omega

theorem yieldK_sound {B : Base} {F : Entry → Prop} {N : Nat} (hY : YOk B F N) {e r β σ Φ a w n l} {xs : List SV} {vs : List Value} {K : EK} (h : yieldK B l xs σ Φ n K) (hF : F e) (s : Sat B e N r β σ Φ a w) (hx : RelL r β xs vs) :
    YieldTo B.P l vs w fun en w' => ∃ v, en = .returned v ∧ ∃ e', F e' ∧ After B e' N a σ K v w' := by
  unfold yieldK at h
  split at h
  · rename_i i hg
    cases hc : (freshE GID σ && freshQ GID Φ) with
    | false => rw [hc] at h; exact h.elim
    | true =>
      rw [hc] at h
      simp only [Bool.and_eq_true] at hc
      obtain ⟨⟨rfl⟩, ⟨hi⟩, heq, ht, hf⟩ := h
      obtain rfl := eqPl1L_eq heq
      obtain ⟨Φt, hkt, hΦt⟩ := setPK_sound ht (hasId_of hg)
      obtain ⟨Φf, hkf, hΦf⟩ := setPK_sound hf (hasId_of hg)
      refine (hY e r β σ Φ a w i vs hF s hg hi hx hc.1 hc.2).mono ?_
      rintro en w' ⟨b, rfl, e', hF', hs⟩
      refine ⟨_, rfl, e', hF', ?_⟩
      cases b with
      | true =>
        obtain ⟨β', s'⟩ := hs Φt hΦt
        exact ⟨⟨_, _, _, _, _, _, hkt, .bool, s', fun _ h => h⟩⟩
      | false =>
        obtain ⟨β', s'⟩ := hs Φf hΦf
        exact ⟨⟨_, _, _, _, _, _, hkf, .bool, s', fun _ h => h⟩⟩
  · exact h.elim
end Go.Vc

namespace Go.Vc
set_option autoImplicit false
set_option linter.unusedVariables false
set_option linter.unusedSimpArgs false

theorem vcOp_sound {B : Base} {F : Entry → Prop} {e N r β σ Φ a w n op} {K : EK} (hY : YOk B F N) (hF : F e) (h : vcOp B op σ Φ n K) (s : Sat B e N r β σ Φ a w) {dst ty pos after guard} :
    (∀ c, op ≠ .defer c) ∧ OpTo B.P a w ⟨dst, op, ty, pos, after, guard⟩ (fun v w' => ∃ e', F e' ∧ After B e' N a σ K v w') := by
  have ev : ∀ {x : Operand} {sv : SV}, (∀ p r β (a : Act) g, Has p x → Sm p r β σ a.tmps [] g → Rel r β sv (a.eval x)) → Rel r β sv (a.eval x) := fun h => h _ r β a _ (hasT _) (Sm.plain s.agree)
  unfold vcOp at h
  split at h
  · rename_i t
    obtain ⟨l, z, hk, ho, _, hz, hl⟩ := zeroK_sound h
    obtain ⟨sv, σ', Φ', n', hk2, rfl, β', hr, s'⟩ := newK_sound hk s t z.cells (hl r β)
    refine ⟨(fun c hc => by cases hc), .val (.pointer (some ⟨w.heap.size, 0, none⟩)) { w with heap := w.heap.push (.cells z.cells t) } ?_ ⟨e, hF, _, _, _, _, _, _, hk2, hr, s', fun _ h => h⟩⟩
    simp only [execOp, Instr.alloc, Sem.run_bind, hz, Result.andThen_ok, newVar, newRow, run_newObj, Sem.run_pure]
  · rename_i t x
    obtain ⟨sx, h, hx⟩ := opK_sound h
    obtain ⟨l, hk, ho, _, hl⟩ := cellsK_sound h
    obtain ⟨sv, σ', Φ', n', hk2, rfl, β', hr, s'⟩ := newK_sound hk s t (a.eval x).cells (hl r β _ (ev hx))
    refine ⟨(fun c hc => by cases hc), .val (.pointer (some ⟨w.heap.size, 0, none⟩)) { w with heap := w.heap.push (.cells (a.eval x).cells t) } ?_ ⟨e, hF, _, _, _, _, _, _, hk2, hr, s', fun _ h => h⟩⟩
    simp only [execOp, Instr.box, Sem.run_bind, Result.andThen_ok, newVar, newRow, run_newObj, Sem.run_pure]
  · -- store
    rename_i t p x
    obtain ⟨sp, h, hp⟩ := opK_sound h
    obtain ⟨sx, h, hx⟩ := opK_sound h
    obtain ⟨sv, σ', Φ', r', w', hk, hrun, rfl, s', hD⟩ := storeFK_sound h s (ev hp) (ev hx)
    refine ⟨(fun c hc => by cases hc), .skip w' ?_ ⟨e, hF, _, _, _, _, _, _, hk, .und, s', hD⟩⟩
    simp only [execOp, Sem.run_bind, hrun, Result.andThen_ok, Sem.run_pure]
  · -- buildSlice
    rename_i t ln parts
    obtain ⟨xs, h, _, _⟩ := opsK_sound h
    obtain ⟨_, σ1, Φ1, r1, h, s1, _, hD⟩ := frzK_sound h s (vs := []) ⟨rfl, fun i sv v h => by simp at h⟩
    obtain ⟨sv, Φ', n', v, w', β', hk, hrun, hr, s'⟩ := buildSliceK_sound h s1
    refine ⟨(fun c hc => by cases hc), .val v w' ?_ ⟨e, hF, _, _, _, _, _, _, hk, hr, s', hD⟩⟩
    have e : (Array.map (fun (x : Nat × Operand) => (x.1, a.eval x.2)) ⟨parts⟩) = (parts.map fun (i, x) => (i, a.eval x)).toArray := by simp
    simp only [execOp, Sem.run_bind]
    rw [e, hrun]; rfl
  · -- makeSlice
    rename_i t l c
    obtain ⟨sl, h, hl⟩ := opK_sound h
    obtain ⟨sc, h, hc⟩ := opK_sound h
    obtain ⟨sv, Φ', n', v, w', β', hk, hrun, hr, s'⟩ := makeSliceK_sound h s (ev hl) (ev hc)
    refine ⟨(fun c hc => by cases hc), .val v w' ?_ ⟨e, hF, _, _, _, _, _, _, hk, hr, s', fun _ h => h⟩⟩
    simp only [execOp, Sem.run_bind, hrun, Result.andThen_ok, Sem.run_pure]
  · -- makeMap
    rename_i t
    obtain ⟨sv, Φ', n', v, w', β', hk, hrun, hr, s'⟩ := makeMapK_sound h s
    refine ⟨(fun c hc => by cases hc), .val v w' ?_ ⟨e, hF, _, _, _, _, _, _, hk, hr, s', fun _ h => h⟩⟩
    simp only [execOp, Sem.run_bind, Option.map_none, hrun none (.inl rfl), Result.andThen_ok, Sem.run_pure]
  · -- makeMap
    rename_i t ro
    obtain ⟨sr, h, hro⟩ := opK_sound h
    cases sr <;> simp only at h
    obtain ⟨sv, Φ', n', v, w', β', hk, hrun, hr, s'⟩ := makeMapK_sound h s
    refine ⟨(fun c hc => by cases hc), .val v w' ?_ ⟨e, hF, _, _, _, _, _, _, hk, hr, s', fun _ h => h⟩⟩
    have he := ev hro
    generalize hq : a.eval ro = u at he
    cases he
    simp only [execOp, Sem.run_bind, Option.map_some, hq, hrun _ (.inr ⟨_, _, rfl⟩), Result.andThen_ok, Sem.run_pure]
  · -- mapUpdate
    rename_i t m k x
    obtain ⟨sm, h, hm⟩ := opK_sound h
    obtain ⟨sk, h, hk⟩ := opK_sound h
    obtain ⟨sx, h, hx⟩ := opK_sound h
    obtain ⟨sv, Φ', w', hk, hrun, rfl, s'⟩ := mapSetK_sound h s (ev hm) (ev hk) (ev hx)
    refine ⟨(fun c hc => by cases hc), .skip w' ?_ ⟨e, hF, _, _, _, _, _, _, hk, .und, s', fun _ h => h⟩⟩
    simp only [execOp, Sem.run_bind, hrun, Result.andThen_ok, Sem.run_pure]
  · -- insert
    rename_i t m k x
    obtain ⟨sm, h, hm⟩ := opK_sound h
    obtain ⟨sk, h, hk⟩ := opK_sound h
    obtain ⟨sx, h, hx⟩ := opK_sound h
    obtain ⟨sv, Φ', w', hk, hrun, rfl, s'⟩ := mapSetK_sound h s (ev hm) (ev hk) (ev hx)
    refine ⟨(fun c hc => by cases hc), .skip w' ?_ ⟨e, hF, _, _, _, _, _, _, hk, .und, s', fun _ h => h⟩⟩
    simp only [execOp, Sem.run_bind, hrun, Result.andThen_ok, Sem.run_pure]
  · -- convert
    rename_i sT dT x
    obtain ⟨sx, h, hx⟩ := opK_sound h
    obtain ⟨sv, Φ', n', v, w', β', hk, hrun, hr, s'⟩ := convBK_sound h s (ev hx)
    refine ⟨(fun c hc => by cases hc), .val v w' ?_ ⟨e, hF, _, _, _, _, _, _, hk, hr, s', fun _ h => h⟩⟩
    simp only [execOp, Sem.run_bind, hrun, Result.andThen_ok, Sem.run_pure]
  · -- range
    rename_i t x
    obtain ⟨sx, h, hx⟩ := opK_sound h
    obtain ⟨sv, Φ', n', v, w', β', hk, hrun, hr, s'⟩ := rangeK_sound h s (ev hx)
    refine ⟨(fun c hc => by cases hc), .val v w' ?_ ⟨e, hF, _, _, _, _, _, _, hk, hr, s', fun _ h => h⟩⟩
    simp only [execOp, Sem.run_bind, hrun, Result.andThen_ok, Sem.run_pure]
  · -- next
    rename_i x is
    obtain ⟨sx, h, hx⟩ := opK_sound h
    obtain ⟨sv, Φ', n', v, w', hk, hrun, hr, s'⟩ := nextK_sound (ty := ty) h s (ev hx)
    refine ⟨(fun c hc => by cases hc), .val v w' ?_ ⟨e, hF, _, _, _, _, _, _, hk, hr, s', fun _ h => h⟩⟩
    simp only [execOp, Sem.run_bind, hrun, Result.andThen_ok, Sem.run_pure]
  · -- a slice and nil
    rename_i t x t2
    obtain ⟨sx, h, hx⟩ := opK_sound h
    obtain ⟨b, hk, hrun, av, nv, cv, hv⟩ := nilK_sound h s.mem (ev hx)
    refine ⟨(fun c hc => by cases hc), .val (.bool b) w ?_ ⟨e, hF, _, _, _, _, _, _, hk, .bool, s, fun _ h => h⟩⟩
    have he : a.eval (.const (.slice none 0 0)) = .slice none 0 0 := rfl
    rw [hv] at hrun
    simp only [execOp, Sem.run_bind, hv, he, guard_slice, Result.andThen_ok]
    have hb : (Go.binOp .eql t (.slice av nv cv) (.slice none 0 0)).run B.P w = .ok (.bool b) w := by
      show Sem.run B.P (do pure (Value.bool (← Op.equal t _ _))) w = _
      rw [Sem.run_bind, hrun]; rfl
    rw [hb]; rfl
  · -- a slice, not nil
    rename_i t x t2
    obtain ⟨sx, h, hx⟩ := opK_sound h
    obtain ⟨b, hk, hrun, av, nv, cv, hv⟩ := nilK_sound h s.mem (ev hx)
    refine ⟨(fun c hc => by cases hc), .val (.bool (!b)) w ?_ ⟨e, hF, _, _, _, _, _, _, hk, .bool, s, fun _ h => h⟩⟩
    have he : a.eval (.const (.slice none 0 0)) = .slice none 0 0 := rfl
    rw [hv] at hrun
    simp only [execOp, Sem.run_bind, hv, he, guard_slice, Result.andThen_ok]
    have hb : (Go.binOp .neq t (.slice av nv cv) (.slice none 0 0)).run B.P w = .ok (.bool (!b)) w := by
      show Sem.run B.P (do pure (Value.bool (!(← Op.equal t _ _)))) w = _
      rw [Sem.run_bind, hrun]; rfl
    rw [hb]; rfl
  · -- cut
    rename_i t x hi
    obtain ⟨sx, h, hx⟩ := opK_sound h
    split at h
    · rename_i id
      obtain ⟨sh, h, hh⟩ := opK_sound h
      obtain ⟨sv, σ', Φ', n', v, β', hk, hrun, hr, s', hD⟩ := cutK_sound h s (ev hh)
      refine ⟨(fun c hc => by cases hc), .val v w ?_ ⟨e, hF, _, _, _, _, _, _, hk, hr, s', hD⟩⟩
      have he : a.eval x = β id := by
        have := ev hx
        generalize a.eval x = u at this
        cases this; rfl
      simp only [execOp, Sem.run_bind, Option.map_some, Option.map_none, he, hrun, Result.andThen_ok, Sem.run_pure]
    · obtain ⟨sv, hk, hnd, hop⟩ := evK_sound h (fun _ => ⟨_, r, β, a, w, fun _ _ => hasT _, Sm.plain s.agree, s.mem⟩)
      refine ⟨hnd, (hop _ r β a w (fun _ _ => hasT _) (Sm.plain s.agree) s.G s.mem dst ty pos after guard).mono ?_⟩
      rintro v w' ⟨r', hr, hle, m', hid⟩
      exact ⟨e, hF, sv, σ, Φ, n, r', β, hk, hr, s.step (s.agree.of fun k g sv hk => ⟨sv, hk, fun v hr => hr.mono hle⟩) m' hle hid, fun D hD => hD⟩
  · -- the end of it
    rename_i t x lo
    obtain ⟨sx, h, hx⟩ := opK_sound h
    split at h
    · rename_i id
      obtain ⟨sl, h, hl⟩ := opK_sound h
      obtain ⟨sv, v, hk, hrun, hr⟩ := tailK_sound h s (ev hl)
      refine ⟨(fun c hc => by cases hc), .val v w ?_ ⟨e, hF, _, _, _, _, _, _, hk, hr, s, fun _ h => h⟩⟩
      have he : a.eval x = β id := by
        have := ev hx
        generalize a.eval x = u at this
        cases this; rfl
      simp only [execOp, Sem.run_bind, Option.map_some, Option.map_none, he, hrun, Result.andThen_ok, Sem.run_pure]
    · obtain ⟨sv, hk, hnd, hop⟩ := evK_sound h (fun _ => ⟨_, r, β, a, w, fun _ _ => hasT _, Sm.plain s.agree, s.mem⟩)
      refine ⟨hnd, (hop _ r β a w (fun _ _ => hasT _) (Sm.plain s.agree) s.G s.mem dst ty pos after guard).mono ?_⟩
      rintro v w' ⟨r', hr, hle, m', hid⟩
      exact ⟨e, hF, sv, σ, Φ, n, r', β, hk, hr, s.step (s.agree.of fun k g sv hk => ⟨sv, hk, fun v hr => hr.mono hle⟩) m' hle hid, fun D hD => hD⟩
  · -- clear
    rename_i x t
    obtain ⟨sx, h, hx⟩ := opK_sound h
    split at h
    · obtain ⟨sv, Φ', v, w', hk, hrun, hr, s'⟩ := clearK_sound (ty := ty) h s (ev hx)
      refine ⟨(fun c hc => by cases hc), .val v w' ?_ ⟨e, hF, _, _, _, _, _, _, hk, hr, s', fun _ h => h⟩⟩
      simp only [execOp, resolve, Sem.run_bind, Sem.run_pure, Result.andThen_ok, invoke, builtin]
      rw [show Array.map a.eval ⟨[x]⟩ = #[a.eval x] by simp]
      rw [hrun]; rfl
    · obtain ⟨sv, hk, hnd, hop⟩ := evK_sound h (fun _ => ⟨_, r, β, a, w, fun _ _ => hasT _, Sm.plain s.agree, s.mem⟩)
      refine ⟨hnd, (hop _ r β a w (fun _ _ => hasT _) (Sm.plain s.agree) s.G s.mem dst ty pos after guard).mono ?_⟩
      rintro v w' ⟨r', hr, hle, m', hid⟩
      exact ⟨e, hF, sv, σ, Φ, n, r', β, hk, hr, s.step (s.agree.of fun k g sv hk => ⟨sv, hk, fun v hr => hr.mono hle⟩) m' hle hid, fun D hD => hD⟩
  · -- append
    rename_i sl x ts tx
    obtain ⟨ss, h, hs⟩ := opK_sound h
    obtain ⟨sx, h, hx⟩ := opK_sound h
    obtain ⟨sv, σ', Φ', n', v, w', β', hk, hrun, hr, s', hD⟩ := appendK_sound (ty := ty) h s (ev hs) (ev hx)
    refine ⟨(fun c hc => by cases hc), .val v w' ?_ ⟨e, hF, _, _, _, _, _, _, hk, hr, s', hD⟩⟩
    simp only [execOp, resolve, Sem.run_bind, Sem.run_pure, Result.andThen_ok, invoke, builtin]
    rw [show Array.map a.eval ⟨[sl, x]⟩ = #[a.eval sl, a.eval x] by simp]
    rw [hrun]; rfl
  · -- delete
    rename_i m k tm tk
    obtain ⟨sm, h, hm⟩ := opK_sound h
    obtain ⟨sk, h, hk⟩ := opK_sound h
    obtain ⟨sv, Φ', v, w', hk, hrun, rfl, s'⟩ := mapDelK_sound h s (ev hm) (ev hk) tk ty
    refine ⟨(fun c hc => by cases hc), .val v w' ?_ ⟨e, hF, _, _, _, _, _, _, hk, .und, s', fun _ h => h⟩⟩
    simp only [execOp, resolve, Sem.run_bind, Sem.run_pure, Result.andThen_ok, invoke, builtin]
    rw [show Array.map a.eval ⟨[m, k]⟩ = #[a.eval m, a.eval k] by simp]
    rw [hrun]; rfl
  · -- len
    rename_i x t
    obtain ⟨sx, h, hx⟩ := opK_sound h
    split at h
    · obtain ⟨sv, v, hk, hrun, hr⟩ := mapLenK_sound h s (ev hx) ty
      refine ⟨(fun c hc => by cases hc), .val v w ?_ ⟨e, hF, _, _, _, _, _, _, hk, hr, s, fun _ h => h⟩⟩
      simp only [execOp, resolve, Sem.run_bind, Sem.run_pure, Result.andThen_ok, invoke, builtin]
      rw [show Array.map a.eval ⟨[x]⟩ = #[a.eval x] by simp]
      rw [hrun]; rfl
    · obtain ⟨sv, hk, hnd, hop⟩ := evK_sound h (fun _ => ⟨_, r, β, a, w, fun _ _ => hasT _, Sm.plain s.agree, s.mem⟩)
      refine ⟨hnd, (hop _ r β a w (fun _ _ => hasT _) (Sm.plain s.agree) s.G s.mem dst ty pos after guard).mono ?_⟩
      rintro v w' ⟨r', hr, hle, m', hid⟩
      exact ⟨e, hF, sv, σ, Φ, n, r', β, hk, hr, s.step (s.agree.of fun k g sv hk => ⟨sv, hk, fun v hr => hr.mono hle⟩) m' hle hid, fun D hD => hD⟩
  · -- a call
    rename_i f xs ts
    obtain ⟨fv, h, hf⟩ := opK_sound h
    split at h
    · rename_i fid caps
      obtain ⟨l, h, h1, h2⟩ := opsK_sound h
      have h := appK_sound h
      have hfv := ev hf
      generalize hq : a.eval f = v at hfv
      cases hfv with
      | fn hl hc =>
        rename_i cs
        refine ⟨(fun c hc => by cases hc), (callS_sound h s (vs := xs.map a.eval ++ cs) ((evalL h1 (h2 _ r β a _ (fun _ _ => hasT _) (Sm.plain s.agree))).append ⟨hl, hc⟩) fun w => ?_).mono fun v w' h => ⟨e, hF, h⟩⟩
        simp only [execOp, resolve, hq, Deferred.ofValue, Sem.run_bind, Sem.run_pure, Result.andThen_ok, invoke]
        congr 2
        simp
    · rename_i l
      obtain ⟨ys, h, h1, h2⟩ := opsK_sound h
      have hfv := ev hf
      generalize hq : a.eval f = v at hfv
      cases hfv
      obtain ⟨fn, tmps, assign, body, hrun, hr⟩ := yieldK_sound hY h hF s (evalL h1 (h2 _ r β a _ (fun _ _ => hasT _) (Sm.plain s.agree)))
      refine ⟨(fun c hc => by cases hc), .round l fn tmps assign body ?_ hr⟩
      simp only [execOp, resolve, hq, Deferred.ofValue, Sem.run_bind, Sem.run_pure, Result.andThen_ok, invoke]
      have e : (Array.map a.eval ⟨xs⟩ ++ #[]) = (xs.map a.eval).toArray := by simp
      first | (rw [e]; exact hrun) | (simp; simpa using hrun)
    · exact h.elim
  · obtain ⟨sv, hk, hnd, hop⟩ := evK_sound h (fun _ => ⟨_, r, β, a, w, fun _ _ => hasT _, Sm.plain s.agree, s.mem⟩)
    refine ⟨hnd, (hop _ r β a w (fun _ _ => hasT _) (Sm.plain s.agree) s.G s.mem dst ty pos after guard).mono ?_⟩
    rintro v w' ⟨r', hr, hle, m', hid⟩
    exact ⟨e, hF, sv, σ, Φ, n, r', β, hk, hr, s.step (s.agree.of fun k g sv hk => ⟨sv, hk, fun v hr => hr.mono hle⟩) m' hle hid, fun D hD => hD⟩

theorem dstOf_spec {all : List Oper} {j s : Nat} (h : dstOf all j = some s) : ∃ o, all[j]? = some o ∧ o.dst = some s := by
  unfold dstOf at h
  rw [nth_eq] at h
  split at h
  · exact ⟨_, by assumption, h⟩
  · cases h
theorem yielded_of {all : List Oper} {j s : Nat} (h : dstOf all j = some s) (t : Array Value) (w : Bool) : (yielded all.toArray t j == some w) = true ↔ t[s]? = some (.bool w) := by
  obtain ⟨o, h1, h2⟩ := dstOf_spec h
  unfold yielded
  simp only [List.getElem?_toArray, h1, Option.bind_some, h2]
  cases hq : t[s]? with
  | none => simp
  | some v => cases v <;> simp


structure RegOk (N : Nat) (all : List Oper) : Prop where
  lt : ∀ o ∈ all, ∀ d, o.dst = some d → d < N
  nodup : (dsts all).Nodup
  before : ∀ (i : Nat) (o : Oper), all[i]? = some o → ∀ j w, o.guard = some (j, w) → j < i

theorem notDst_spec {d : Nat} {l : List Oper} (h : notDst d l = true) : d ∉ dsts l := by
  induction l with
  | nil => simp [dsts]
  | cons o r ih =>
    simp only [notDst, Bool.and_eq_true] at h
    have := ih h.2
    cases hd : o.dst with
    | none => simp only [dsts, List.filterMap_cons, hd]; exact this
    | some d' =>
      simp only [dsts, List.filterMap_cons, hd, List.mem_cons, not_or]
      refine ⟨?_, this⟩
      rintro rfl
      have h1 := h.1
      rw [hd] at h1
      simp [Nat.beq_refl] at h1
theorem regOk_of {N : Nat} {all : List Oper} (h1 : allDst N all = true) (h2 : distinctDst all = true) (h3 : guardsOk 0 all = true) : RegOk N all := by
  refine ⟨?_, ?_, ?_⟩
  · clear h2 h3
    induction all with
    | nil => intro o ho; cases ho
    | cons x r ih =>
      simp only [allDst, Bool.and_eq_true] at h1
      intro o ho d hd
      cases ho with
      | head =>
        have := h1.1
        rw [hd] at this
        exact (Nat.blt_eq ▸ this : _ < _)
      | tail _ ho => exact ih h1.2 o ho d hd
  · clear h1 h3
    induction all with
    | nil => exact List.nodup_nil
    | cons x r ih =>
      simp only [distinctDst, Bool.and_eq_true] at h2
      have := ih h2.2
      cases hd : x.dst with
      | none => simp only [dsts, List.filterMap_cons, hd]; exact this
      | some d =>
        simp only [dsts, List.filterMap_cons, hd]
        have h := h2.1
        rw [hd] at h
        exact List.nodup_cons.2 ⟨notDst_spec h, this⟩
  · clear h1 h2
    have gen : ∀ (l : List Oper) (k : Nat), guardsOk k l = true → ∀ (i : Nat) (o : Oper), l[i]? = some o → ∀ j w, o.guard = some (j, w) → j < k + i := by
      intro l
      induction l with
      | nil => intro k _ i o hi; simp at hi
      | cons x r ih =>
        intro k h i o hi j w hg
        simp only [guardsOk, Bool.and_eq_true] at h
        cases i with
        | zero =>
          simp at hi; subst hi
          have := h.1
          rw [hg] at this
          simpa [Nat.blt_eq] using this
        | succ i =>
          have := ih (k + 1) h.2 i o (by simpa using hi) j w hg
          omega
    intro i o hi j w hg
    have := gen all 0 h3 i o hi j w hg
    omega


theorem mem_dsts_take {all : List Oper} {i s : Nat} : s ∈ dsts (all.take i) ↔ ∃ j o, j < i ∧ all[j]? = some o ∧ o.dst = some s := by
  unfold dsts
  rw [List.mem_filterMap]
  constructor
  · rintro ⟨o, ho, hd⟩
    obtain ⟨j, hj, rfl⟩ := List.getElem_of_mem ho
    rw [List.length_take] at hj
    refine ⟨j, _, by omega, ?_, hd⟩
    rw [List.getElem_take]; exact List.getElem?_eq_getElem (by omega)
  · rintro ⟨j, o, hj, ho, hd⟩
    refine ⟨o, ?_, hd⟩
    have := lt_len ho
    exact List.mem_of_getElem? (i := j) (by rw [List.getElem?_take, if_pos hj]; exact ho)
theorem RegOk.uniq {N all} (h : RegOk N all) : ∀ {i j : Nat} {oi oj : Oper} {d : Nat}, all[i]? = some oi → all[j]? = some oj → oi.dst = some d → oj.dst = some d → i = j := by
  have key : ∀ (l : List Oper), (dsts l).Nodup → ∀ (i j : Nat) (oi oj : Oper) (d : Nat), l[i]? = some oi → l[j]? = some oj → oi.dst = some d → oj.dst = some d → i = j := by
    intro l
    induction l with
    | nil => intro _ i j oi oj d h; simp at h
    | cons x r ih =>
      intro hn i j oi oj d hi hj hdi hdj
      have hmem : ∀ {k : Nat} {ok : Oper}, r[k]? = some ok → ok.dst = some d → d ∈ dsts r := fun hk hd => List.mem_filterMap.2 ⟨_, List.mem_of_getElem? hk, hd⟩
      have hr : (dsts r).Nodup := by
        cases hx : x.dst with
        | none => simpa [dsts, hx] using hn
        | some d' => simp only [dsts, List.filterMap_cons, hx] at hn; exact (List.nodup_cons.1 hn).2
      cases i with
      | zero =>
        cases j with
        | zero => rfl
        | succ j =>
          simp at hi; subst hi
          simp only [dsts, List.filterMap_cons, hdi] at hn
          exact ((List.nodup_cons.1 hn).1 (hmem (by simpa using hj) hdj)).elim
      | succ i =>
        cases j with
        | zero =>
          simp at hj; subst hj
          simp only [dsts, List.filterMap_cons, hdj] at hn
          exact ((List.nodup_cons.1 hn).1 (hmem (by simpa using hi) hdi)).elim
        | succ j => rw [ih hr i j oi oj d (by simpa using hi) (by simpa using hj) hdi hdj]
  exact fun {i j oi oj d} => key all h.nodup i j oi oj d
theorem RegOk.fresh {N all} (h : RegOk N all) {i : Nat} {o : Oper} {d : Nat} (ho : all[i]? = some o) (hd : o.dst = some d) : d ∉ dsts (all.take i) := by
  intro hm
  obtain ⟨j, o', hj, ho', hd'⟩ := mem_dsts_take.1 hm
  have := h.uniq ho ho' hd hd'
  omega
theorem RegOk.guardIn {N all} (h : RegOk N all) {i : Nat} {o : Oper} {j s : Nat} {w : Bool} (ho : all[i]? = some o) (hg : o.guard = some (j, w)) (hs : dstOf all j = some s) : s ∈ dsts (all.take i) := by
  obtain ⟨o', h1, h2⟩ := dstOf_spec hs
  exact mem_dsts_take.2 ⟨j, o', h.before i o ho j w hg, h1, h2⟩
theorem GdIn.mono {D D' : List Nat} {σ : Env} (h : GdIn D σ) (hs : ∀ x ∈ D, x ∈ D') : GdIn D' σ := fun k s w sv hk => hs _ (h k s w sv hk)
theorem take_mono {all : List Oper} {i j : Nat} (h : i ≤ j) : ∀ x ∈ dsts (all.take i), x ∈ dsts (all.take j) := by
  intro x hx
  obtain ⟨k, o, h1, h2, h3⟩ := mem_dsts_take.1 hx
  exact mem_dsts_take.2 ⟨k, o, by omega, h2, h3⟩

theorem Sat.put {B : Base} {e N r β σ Φ a w D} (s : Sat B e N r β σ Φ a w) (hgd : GdIn D σ) {dst : Option Nat} {gd : Option (Nat × Bool)} {sv : SV} {v : Value}
    (hd : ∀ d, dst = some d → d ∉ D ∧ d < N)
    (hv : match gd with | none => Rel r β sv v | some (s, w) => s ∈ D ∧ (a.tmps[s]? = some (.bool w) → Rel r β sv v) ∧ (a.tmps[s]? ≠ some (.bool w) → v = undef)) :
    Sat B e N r β (putE dst gd sv σ) Φ (a.put dst v) w := by
  cases dst with
  | none => exact s
  | some d =>
    obtain ⟨h1, h2⟩ := hd d rfl
    refine ⟨?_, s.mem, s.G, s.kept, s.defers, by rw [put_size]; exact s.size⟩
    refine s.agree.put hgd h1 (by rw [s.size]; exact h2) ?_
    cases gd with
    | none => exact hv
    | some p => exact ⟨fun hq => h1 (hq ▸ hv.1), hv.2⟩

theorem putE_gd {D D' : List Nat} {σ : Env} {dst : Option Nat} (hgd : GdIn D σ) (hs : ∀ x ∈ D, x ∈ D') {gd : Option (Nat × Bool)} {sv : SV} (hg : ∀ s w, gd = some (s, w) → s ∈ D') : GdIn D' (putE dst gd sv σ) := by
  cases dst with
  | none => exact hgd.mono hs
  | some d =>
    intro k s w sv' hk
    have hk : Env.get ((d, gd, sv) :: σ) k = some (some (s, w), sv') := hk
    rw [get_cons] at hk
    cases hb : Nat.beq d k with
    | true =>
      rw [hb] at hk
      simp only [cond_true, Option.some.injEq, Prod.mk.injEq] at hk
      exact hg _ _ hk.1
    | false => rw [hb] at hk; exact hs _ (hgd _ _ _ _ hk)

theorem wanted_guard {all : List Oper} {o : Oper} {j : Nat} {w : Bool} (hg : o.guard = some (j, w)) (t : Array Value) : Region.wanted o (yielded all.toArray t) = (yielded all.toArray t j == some w) := by
  unfold Region.wanted; rw [hg]

theorem beqB_of {a b : Bool} (h : beqB a b = true) : a = b := by cases a <;> cases b <;> simp_all [beqB]
theorem ungL_get {s : Nat} {w : Bool} : ∀ {σ : Env} {k g sv}, Env.get (ungL s w σ) k = some (g, sv) → ∃ g0, Env.get σ k = some (g0, sv) ∧ (g = g0 ∨ (g = none ∧ g0 = some (s, w))) := by
  intro σ
  induction σ with
  | nil => intro k g sv h; cases h
  | cons x r ih =>
    obtain ⟨k0, g0, sv0⟩ := x
    intro k g sv h
    cases g0 with
    | none =>
      simp only [ungL, get_cons] at h ⊢
      cases hb : Nat.beq k0 k with
      | true => rw [hb] at h; simp only [cond_true, Option.some.injEq, Prod.mk.injEq] at h ⊢; obtain ⟨rfl, rfl⟩ := h; exact ⟨none, ⟨rfl, rfl⟩, .inl rfl⟩
      | false => rw [hb] at h; exact ih h
    | some p =>
      obtain ⟨s', w'⟩ := p
      simp only [ungL, get_cons] at h ⊢
      cases hb : Nat.beq k0 k with
      | true =>
        rw [hb] at h
        simp only [cond_true, Option.some.injEq, Prod.mk.injEq] at h ⊢
        obtain ⟨h1, rfl⟩ := h
        refine ⟨some (s', w'), ⟨rfl, rfl⟩, ?_⟩
        cases hc : (Nat.beq s' s && beqB w' w) with
        | true =>
          rw [hc] at h1
          simp only [Bool.and_eq_true] at hc
          exact .inr ⟨h1.symm, by rw [beq_of hc.1, beqB_of hc.2]⟩
        | false => rw [hc] at h1; exact .inl h1.symm
      | false => rw [hb] at h; exact ih h
/-- behind a guard that holds -/
theorem Sat.ung {B : Base} {e N r β σ Φ a w} (st : Sat B e N r β σ Φ a w) {s : Nat} {wv : Bool} (ht : (Act.tmps a)[s]? = some (.bool wv)) : Sat B e N r β (ungE s wv σ) Φ a w := by
  refine ⟨fun k g sv hg => ?_, st.mem, st.G, st.kept, st.defers, st.size⟩
  have hg : Env.get ((s, none, .bool wv) :: ungL s wv σ) k = some (g, sv) := hg
  rw [get_cons] at hg
  cases hb : Nat.beq s k with
  | true =>
    obtain rfl := beq_of hb
    rw [hb] at hg
    simp only [cond_true, Option.some.injEq, Prod.mk.injEq] at hg
    obtain ⟨rfl, rfl⟩ := hg
    exact ⟨_, ht, .bool⟩
  | false =>
    rw [hb] at hg
    obtain ⟨g0, h1, h2⟩ := ungL_get hg
    have := st.agree k g0 sv h1
    rcases h2 with rfl | ⟨rfl, rfl⟩
    · exact this
    · exact this.1 ht
theorem ungE_gd {D : List Nat} {σ : Env} {s : Nat} {wv : Bool} (h : GdIn D σ) : GdIn D (ungE s wv σ) := by
  intro k s' w' sv hg
  have hg : Env.get ((s, none, .bool wv) :: ungL s wv σ) k = some (some (s', w'), sv) := hg
  rw [get_cons] at hg
  cases hb : Nat.beq s k with
  | true => rw [hb] at hg; simp at hg
  | false =>
    rw [hb] at hg
    obtain ⟨g0, h1, h2⟩ := ungL_get hg
    rcases h2 with rfl | ⟨h2, _⟩
    · exact h k s' w' sv h1
    · cases h2
/-- a slot of which the value is known -/
theorem Sat.lit {B : Base} {e N r β σ Φ a w} (st : Sat B e N r β σ Φ a w) {s : Nat} {b : Bool} (ht : (Act.tmps a)[s]? = some (.bool b)) : Sat B e N r β ((s, none, .bool b) :: σ) Φ a w := by
  refine ⟨fun k g sv hg => ?_, st.mem, st.G, st.kept, st.defers, st.size⟩
  rw [get_cons] at hg
  cases hb : Nat.beq s k with
  | true =>
    obtain rfl := beq_of hb
    rw [hb] at hg
    simp only [cond_true, Option.some.injEq, Prod.mk.injEq] at hg
    obtain ⟨rfl, rfl⟩ := hg
    exact ⟨_, ht, .bool⟩
  | false => rw [hb] at hg; exact st.agree k g sv hg
theorem lit_gd {D : List Nat} {σ : Env} {s : Nat} {b : Bool} (h : GdIn D σ) : GdIn D ((s, none, .bool b) :: σ) := by
  intro k s' w' sv hg
  rw [get_cons] at hg
  cases hb : Nat.beq s k with
  | true => rw [hb] at hg; simp at hg
  | false => rw [hb] at hg; exact h k s' w' sv hg

/-- where the walk of a region stands, ahead of these operations -/
def SeqInv (B : Base) (F : Entry → Prop) (N : Nat) (all : List Oper) (i : Nat) (rest : List Oper) (K : Env → Phi → Nat → Prop) (a : Act) (w : World) : Prop :=
  ∃ e r β σ Φ n, F e ∧ vcOps B all rest σ Φ n K ∧ Sat B e N r β σ Φ a w ∧ GdIn (dsts (all.take i)) σ

/-- the same, with the slots of which guards may be -/
def SeqInvD (B : Base) (F : Entry → Prop) (N : Nat) (all : List Oper) (D : List Nat) (rest : List Oper) (K : Env → Phi → Nat → Prop) (a : Act) (w : World) : Prop :=
  ∃ e r β σ Φ n, F e ∧ vcOps B all rest σ Φ n K ∧ Sat B e N r β σ Φ a w ∧ GdIn D σ
theorem op_stepD {B : Base} {F : Entry → Prop} {N all} (hY : YOk B F N) {K : Env → Phi → Nat → Prop} {o : Oper} {rest : List Oper} {D D' : List Nat} (hd : ∀ d, o.dst = some d → d ∉ D ∧ d < N) (hsub : ∀ d ∈ D, d ∈ D')
    (hin : ∀ j w s, o.guard = some (j, w) → dstOf all j = some s → s ∈ D) {a : Act} {w : World}
    (h : SeqInvD B F N all D (o :: rest) K a w) : (∀ c, o.op ≠ .defer c) ∧ (Region.wanted o (yielded all.toArray a.tmps) = true → OpTo B.P a w o fun v w' => SeqInvD B F N all D' rest K (a.put o.dst v) w') ∧
      (Region.wanted o (yielded all.toArray a.tmps) = false → SeqInvD B F N all D' rest K (a.put o.dst undef) w) := by
  obtain ⟨e, r, β, σ, Φ, n, hF, h, s, hgd⟩ := h
  obtain ⟨dst, op, ty, pos, after, guard⟩ := o
  simp only [vcOps] at h
  split at h
  · obtain ⟨hnd, hop⟩ := vcOp_sound (dst := dst) (ty := ty) (pos := pos) (after := after) (guard := none) hY hF h s
    refine ⟨hnd, fun _ => hop.mono ?_, fun hw => by simp [Region.wanted] at hw⟩
    rintro v w' ⟨e', hF', sv, σ', Φ', n', r', β', hk, hr, s', hD⟩
    exact ⟨e', r', β', _, Φ', n', hF', hk, s'.put (hD _ hgd) hd hr, putE_gd (hD _ hgd) hsub (fun s w h => by cases h)⟩
  · rename_i j wv
    split at h
    · rename_i sl hs
      cases hyc : isYieldC σ op with
      | true =>
        rw [hyc] at h
        simp only [cond_true] at h
        split at h
        · rename_i b hgs
          have hinS : sl ∈ D := hin j wv sl rfl hs
          have hnd : ∀ c, op ≠ .defer c := fun c hc => by subst hc; cases hyc
          obtain ⟨vb, hvb, hrb⟩ := s.agree _ _ _ hgs
          cases hrb
          rw [wanted_guard (all := all) (j := j) (w := wv) rfl]
          refine ⟨hnd, fun hw => ?_, fun hw => ?_⟩
          · have ht := (yielded_of hs a.tmps wv).1 hw
            have hbw : b = wv := by rw [hvb] at ht; simpa using ht
            obtain ⟨_, hop⟩ := vcOp_sound (dst := dst) (ty := ty) (pos := pos) (after := after) (guard := some (j, wv)) hY hF (h.1 hbw) (s.ung ht)
            refine hop.mono ?_
            rintro v w' ⟨e', hF', sv, σ', Φ', n', r', β', hk, hr, s', hD⟩
            exact ⟨e', r', β', _, Φ', n', hF', hk, s'.put (hD _ (ungE_gd hgd)) hd hr, putE_gd (hD _ (ungE_gd hgd)) hsub (fun s w h => by cases h)⟩
          · have ht : a.tmps[sl]? ≠ some (.bool wv) := fun ht => by rw [(yielded_of hs a.tmps wv).2 ht] at hw; cases hw
            have hbw : b = !wv := by
              rw [hvb] at ht
              cases b <;> cases wv <;> simp_all
            have hvb' : a.tmps[sl]? = some (.bool (!wv)) := by rw [← hbw]; exact hvb
            exact ⟨e, r, β, _, Φ, n, hF, h.2 hbw, (s.lit hvb').put (lit_gd hgd) hd .und, putE_gd (lit_gd hgd) hsub (fun s w h => by cases h)⟩
        · exact h.elim
      | false =>
      rw [hyc] at h
      simp only [cond_false] at h
      obtain ⟨ctx, g, h, hsm⟩ := ctxK_sound h
      obtain ⟨sv, hk, hnd, hop⟩ := evK_sound h (fun hq => by cases hq)
      have hinS : sl ∈ D := hin j wv sl rfl hs
      have hgd' : GdIn (D') (putE dst (some (sl, wv)) sv σ) := putE_gd hgd hsub (fun s w h => by cases h; exact hsub _ hinS)
      rw [wanted_guard (all := all) (j := j) (w := wv) rfl]
      refine ⟨hnd, fun hw => ?_, fun hw => ?_⟩
      · have ht := (yielded_of hs a.tmps wv).1 hw
        refine (hop (fun _ => True) r β a w (fun _ _ => hasT _) (hsm _ r β a.tmps (fun _ _ _ _ _ _ => trivial) trivial (s.agree.P _) ht) s.G s.mem dst ty pos after _).mono ?_
        rintro v w' ⟨r', hr, hle, m', hid⟩
        refine ⟨e, r', β, _, Φ, n, hF, hk, ?_, hgd'⟩
        have s' := s.step (s.agree.of fun k g sv hk => ⟨sv, hk, fun v hr => hr.mono hle⟩) m' hle hid
        exact s'.put hgd hd ⟨hinS, fun _ => hr, fun h => (h ht).elim⟩
      · have ht : a.tmps[sl]? ≠ some (.bool wv) := fun ht => by rw [(yielded_of hs a.tmps wv).2 ht] at hw; cases hw
        exact ⟨e, r, β, _, Φ, n, hF, hk, s.put hgd hd ⟨hinS, fun h => (ht h).elim, fun _ => rfl⟩, hgd'⟩
    · exact h.elim
/-- one operation, in its turn -/
theorem op_stepTo {B : Base} {F : Entry → Prop} {N all} (hY : YOk B F N) (ok : RegOk N all) {K : Env → Phi → Nat → Prop} {i : Nat} {o : Oper} {rest : List Oper} (ho : all[i]? = some o) {a : Act} {w : World}
    (h : SeqInv B F N all i (o :: rest) K a w) : (∀ c, o.op ≠ .defer c) ∧ (Region.wanted o (yielded all.toArray a.tmps) = true → OpTo B.P a w o fun v w' => SeqInv B F N all (i + 1) rest K (a.put o.dst v) w') ∧
      (Region.wanted o (yielded all.toArray a.tmps) = false → SeqInv B F N all (i + 1) rest K (a.put o.dst undef) w) :=
  op_stepD (D := dsts (all.take i)) (D' := dsts (all.take (i + 1))) hY (fun d hd => ⟨ok.fresh ho hd, ok.lt o (List.mem_of_getElem? ho) d hd⟩) (take_mono (Nat.le_succ i)) (fun j w s h1 h2 => ok.guardIn ho h1 h2) h
theorem op_step {B : Base} {F : Entry → Prop} {N all} (hY : YOk B F N) (ok : RegOk N all) {ro : Option Nat} {Q : Exit → Act → World → Prop} {K : Env → Phi → Nat → Prop} {i : Nat} {o : Oper} {rest : List Oper} (ho : all[i]? = some o) {a : Act} {w : World}
    (h : SeqInv B F N all i (o :: rest) K a w) : wpOpIn (fc ro) 0 B.P all.toArray Q i (SeqInv B F N all (i + 1) rest K) a w := by
  obtain ⟨h1, h2, h3⟩ := op_stepTo hY ok ho h
  unfold wpOpIn
  simp only [List.getElem?_toArray, ho]
  cases hw : Region.wanted o (yielded all.toArray a.tmps) with
  | true => rw [if_pos rfl]; exact (h2 hw).wpIn h1 fun _ _ h => h
  | false => rw [if_neg (by simp)]; exact ⟨fun _ _ => trivial, h3 hw⟩

theorem vcOps_sound {B : Base} {F : Entry → Prop} {N all} (hY : YOk B F N) (ok : RegOk N all) {ro : Option Nat} {K : Env → Phi → Nat → Prop} {Q : Exit → Act → World → Prop}
    (hQ : ∀ e r β σ Φ n a w, F e → K σ Φ n → Sat B e N r β σ Φ a w → Q .normal a w) :
    ∀ (l pre : List Oper), all = pre ++ l → ∀ a w, SeqInv B F N all pre.length l K a w → wpOpsIn (fc ro) 0 B.P all.toArray Q (List.range' pre.length l.length) a w := by
  intro l
  induction l with
  | nil => intro pre he a w ⟨e, r, β, σ, Φ, n, hF, h, s, _⟩; exact hQ _ _ _ _ _ _ _ _ hF h s
  | cons o rest ih =>
    intro pre he a w h
    have ho : all[pre.length]? = some o := by rw [he]; simp
    rw [List.length_cons, List.range'_succ, wpOpsIn_cons]
    refine wpOpIn_mono (fun a' w' h' => ?_) (op_step hY ok ho h)
    have := ih (pre ++ [o]) (by rw [he]; simp) a' w' (by simpa using h')
    simpa using this

theorem region_seq {B : Base} {F : Entry → Prop} {e N all} (hY : YOk B F N) (hF : F e) (ok : RegOk N all) {ro : Option Nat} {K : Env → Phi → Nat → Prop} {Q : Exit → Act → World → Prop} {id : Nat}
    (hQ : ∀ e r β σ Φ n a w, F e → K σ Φ n → Sat B e N r β σ Φ a w → Q .normal a w) {r β σ Φ n a w} (h : vcOps B all all σ Φ n K) (s : Sat B e N r β σ Φ a w) (hgd : GdIn [] σ) :
    (Code.region id all.toArray false).wpIn (fc ro) 0 B.P Q a w := by
  refine wpIn_region ?_
  have := vcOps_sound hY ok (ro := ro) hQ all [] rfl a w ⟨e, r, β, σ, Φ, n, hF, h, s, by simpa [dsts] using hgd⟩
  simpa [List.range_eq_range'] using this
end Go.Vc

namespace Go.Vc
set_option autoImplicit false
set_option linter.unusedVariables false

/-! A region that draws its order, by an invariant over the set of what has been carried out. -/

def isDone (listed : Array Bool) (i : Nat) : Prop := listed.getD i false = true

/-- What the boolean 'lexB' says of a region. -/
structure LexOk (md : Region.Mode) (ops : Array Oper) : Prop where
  back : ∀ (i : Nat) (o : Oper), ops[i]? = some o → ∀ e ∈ o.after, Region.binds md e = true → e.on < i
  apart : ∀ (k j : Nat) (ok oj : Oper), ops[k]? = some ok → ops[j]? = some oj → k < j → (∃ e ∈ oj.after, Region.binds md e = true ∧ e.on = k) ∨ ok.apart ops oj = true

theorem lexFrom_at {md : Region.Mode} {ops : Array Oper} : ∀ (fuel k : Nat) (L : Array Bool), Region.lexFrom md ops fuel k L = true → ∀ i, i < fuel →
    ∃ L' : Array Bool, L'.size = L.size ∧ (∀ t, (k ≤ t ∧ t < k + i → t < L.size → L'[t]? = some true) ∧ (¬ (k ≤ t ∧ t < k + i) → L'[t]? = L[t]?)) ∧
      (k + i) ∈ Region.ready md ops L' ∧ Region.free md ops L' (k + i) = true := by
  intro fuel
  induction fuel with
  | zero => intro k L h i hi; omega
  | succ fuel ih =>
    intro k L h i hi
    simp only [Region.lexFrom, Bool.and_eq_true] at h
    obtain ⟨⟨h1, h2⟩, h3⟩ := h
    cases i with
    | zero => exact ⟨L, rfl, fun t => ⟨fun ht => by omega, fun _ => rfl⟩, by simpa using h1, by simpa using h2⟩
    | succ i =>
      obtain ⟨L', hs, ht, hr, hf⟩ := ih (k + 1) _ h3 i (by omega)
      refine ⟨L', by rw [hs]; simp, fun t => ⟨fun hk hlt => ?_, fun hk => ?_⟩, by rw [show k + (i + 1) = k + 1 + i by omega]; exact hr, by rw [show k + (i + 1) = k + 1 + i by omega]; exact hf⟩
      · by_cases he : t = k
        · subst he
          rw [(ht t).2 (by omega)]
          simp [hlt]
        · exact (ht t).1 (by omega) (by simpa using hlt)
      · rw [(ht t).2 (by omega)]
        rw [Array.getElem?_setIfInBounds_ne (by omega)]

theorem lexOk_of {md : Region.Mode} {ops : Array Oper} (h : Region.lexB md ops = true) : LexOk md ops := by
  simp only [Region.lexB, Bool.and_eq_true] at h
  have at' : ∀ i, i < ops.size → ∃ L' : Array Bool, L'.size = ops.size ∧ (∀ t, t < ops.size → L'[t]? = some (decide (t < i))) ∧ i ∈ Region.ready md ops L' ∧ Region.free md ops L' i = true := by
    intro i hi
    obtain ⟨L', hs, ht, hr, hf⟩ := lexFrom_at ops.size 0 _ h.2 i hi
    refine ⟨L', by simpa using hs, fun t hlt => ?_, by simpa using hr, by simpa using hf⟩
    by_cases hti : t < i
    · rw [(ht t).1 (by omega) (by simpa using hlt)]; simp [hti]
    · rw [(ht t).2 (by omega)]; simp [hti, hlt]
  refine ⟨fun i o ho e he hb => ?_, fun k j ok oj hk hj hkj => ?_⟩
  · have hi : i < ops.size := (Array.getElem?_eq_some_iff.1 ho).1
    obtain ⟨L', hs, ht, hr, _⟩ := at' i hi
    obtain ⟨_, o', ho', hall⟩ := mem_ready.1 hr
    rw [ho] at ho'; cases ho'
    have := hall e he hb
    rcases Nat.lt_or_ge e.on ops.size with hlt | hge
    · have h1 := ht e.on hlt
      rw [Array.getD_eq_getD_getElem?, h1] at this
      simpa using this
    · rw [Array.getD_eq_getD_getElem?, Array.getElem?_eq_none (by omega)] at this
      cases this
  · have hkl : k < ops.size := (Array.getElem?_eq_some_iff.1 hk).1
    have hjl : j < ops.size := (Array.getElem?_eq_some_iff.1 hj).1
    obtain ⟨L', hs, ht, _, hf⟩ := at' k hkl
    by_cases hc : ∃ e ∈ oj.after, Region.binds md e = true ∧ e.on = k
    · exact .inl hc
    · refine .inr (Region.free_spec hk hf j oj hj (by omega) ?_ fun e he hb heq => hc ⟨e, he, hb, heq⟩)
      rw [Array.getD_eq_getD_getElem?, ht j hjl]
      simp; omega

theorem filter_erase {p p' : Nat → Bool} {i : Nat} (h : ∀ j, p' j = (p j && !(j == i))) : ∀ {l : List Nat}, l.Nodup → i ∈ l → p i = true → (l.filter p').length + 1 = (l.filter p).length := by
  intro l
  induction l with
  | nil => intro _ hi; cases hi
  | cons x l ih =>
    intro hn hi hp
    simp only [List.nodup_cons] at hn
    by_cases hx : x = i
    · subst hx
      have e : l.filter p' = l.filter p := by
        apply List.filter_congr
        intro y hy
        rw [h]
        have : y ≠ x := by rintro rfl; exact hn.1 hy
        simp [this]
      have hp' : p' x = false := by rw [h]; simp
      rw [List.filter_cons, List.filter_cons, hp, hp']
      simp [e]
    · have hi' : i ∈ l := by
        cases hi with
        | head => exact absurd rfl hx
        | tail _ hi => exact hi
      have := ih hn.2 hi' hp
      have e : p' x = p x := by rw [h]; simp [hx]
      rw [List.filter_cons, List.filter_cons, e]
      split
      · simp only [List.length_cons]; omega
      · exact this

/-- every order, by an invariant over what has been done -/
theorem wpAnyIn_inv {F : Fence} {n : Nat} {P : Program} {md : Region.Mode} {ops : Array Oper} {Q : Exit → Act → World → Prop} (ok : LexOk md ops) {I : (Nat → Prop) → Act → World → Prop}
    (hstep : ∀ (S : Nat → Prop) (i : Nat) (o : Oper) (a : Act) (w : World), (∀ j, S j → j < ops.size) → (∀ (j : Nat) (oj : Oper), S j → ops[j]? = some oj → ∀ e ∈ oj.after, Region.binds md e = true → S e.on) → ops[i]? = some o → ¬ S i →
      (∀ e ∈ o.after, Region.binds md e = true → S e.on) → I S a w → wpOpIn F n P ops Q i (I fun j => S j ∨ j = i) a w)
    (hend : ∀ S a w, (∀ i, i < ops.size → S i) → I S a w → Q .normal a w) :
    ∀ (fuel : Nat) (listed : Array Bool) (a : Act) (w : World), listed.size = ops.size → ((List.range ops.size).filter fun i => !listed.getD i false).length ≤ fuel →
      (∀ (j : Nat) (oj : Oper), isDone listed j → ops[j]? = some oj → ∀ e ∈ oj.after, Region.binds md e = true → isDone listed e.on) → I (isDone listed) a w → wpAnyIn F n P md ops Q fuel listed a w := by
  have all_of_ready : ∀ (listed : Array Bool), listed.size = ops.size → Region.ready md ops listed = [] → ∀ i, i < ops.size → isDone listed i := by
    intro listed hs hr i
    induction i using Nat.strongRecOn with
    | _ i ih =>
      intro hi
      by_cases hd : isDone listed i
      · exact hd
      · exfalso
        have : i ∈ Region.ready md ops listed := by
          refine mem_ready.2 ⟨?_, ops[i], Array.getElem?_eq_getElem hi, fun e he hb => ?_⟩
          · have hlt : i < listed.size := by omega
            unfold isDone at hd
            rw [Array.getD_eq_getD_getElem?, Array.getElem?_eq_getElem hlt] at hd ⊢
            simpa using hd
          · have hlt := ok.back i _ (Array.getElem?_eq_getElem hi) e he hb
            exact ih e.on hlt (by omega)
        rw [hr] at this; cases this
  intro fuel
  induction fuel with
  | zero =>
    intro listed a w hs hl hcl hI
    have hnil : (List.range ops.size).filter (fun i => !listed.getD i false) = [] := List.length_eq_zero_iff.1 (by omega)
    have hall : ∀ i, i < ops.size → isDone listed i := by
      intro i hi
      rw [List.filter_eq_nil_iff] at hnil
      have := hnil i (by simpa using hi)
      unfold isDone
      simpa using this
    refine ⟨?_, hend _ a w hall hI⟩
    cases hr : Region.ready md ops listed with
    | nil => rfl
    | cons x xs =>
      have hx : x ∈ Region.ready md ops listed := by rw [hr]; simp
      obtain ⟨h0, o, ho, _⟩ := mem_ready.1 hx
      have hlt := (Array.getElem?_eq_some_iff.1 ho).1
      have := hall x hlt
      unfold isDone at this
      rw [Array.getD_eq_getD_getElem?, Array.getElem?_eq_getElem (by omega)] at this h0
      simp at this h0
      rw [this] at h0; cases h0
  | succ fuel ih =>
    intro listed a w hs hl hcl hI
    refine ⟨fun hr => hend _ a w (all_of_ready listed hs hr) hI, fun i hi => ?_⟩
    obtain ⟨h0, o, ho, hall⟩ := mem_ready.1 hi
    have hlt := (Array.getElem?_eq_some_iff.1 ho).1
    have hnd : ¬ isDone listed i := by
      unfold isDone
      rw [Array.getD_eq_getD_getElem?, Array.getElem?_eq_getElem (by omega)] at h0 ⊢
      simp at h0 ⊢; exact h0
    have hset : isDone (listed.setIfInBounds i true) = fun j => isDone listed j ∨ j = i := by
      funext j
      apply propext
      unfold isDone
      by_cases hj : j = i
      · subst hj
        simp [Array.getD_eq_getD_getElem?, show j < listed.size by omega]
      · rw [getD_set_ne false (fun h => hj h.symm)]
        simp [hj]
    refine wpOpIn_mono (fun a' w' hI' => ?_) (hstep (isDone listed) i o a w (fun j hj => ?_) hcl ho hnd (fun e he hb => hall e he hb) hI)
    · refine ih _ a' w' (by simpa using hs) ?_ ?_ (by rw [hset]; exact hI')
      · have := filter_erase (p := fun i => !listed.getD i false) (p' := fun j => !(listed.setIfInBounds i true).getD j false) (i := i) (fun j => by
          by_cases hj : j = i
          · subst hj
            simp [Array.getD_eq_getD_getElem?, show j < listed.size by omega]
          · rw [getD_set_ne false (fun h => hj h.symm)]
            simp [hj]) List.nodup_range (by simpa using hlt) (by unfold isDone at hnd; simpa using hnd)
        omega
      · rw [hset]
        intro j oj hj hoj e he hb
        rcases hj with hj | rfl
        · exact .inl (hcl j oj hj hoj e he hb)
        · rw [ho] at hoj; cases hoj
          exact .inl (hall e he hb)
    · unfold isDone at hj
      rcases Nat.lt_or_ge j ops.size with h | h
      · exact h
      · rw [Array.getD_eq_getD_getElem?, Array.getElem?_eq_none (by omega)] at hj; cases hj

theorem wpIn_region_inv {F : Fence} {n : Nat} {P : Program} {ops : Array Oper} {Q : Exit → Act → World → Prop} (ok : LexOk .any ops) {I : (Nat → Prop) → Act → World → Prop} {id : Nat} {a : Act} {w : World} (hm : P.follows .mixedOrders = true)
    (hstep : ∀ (S : Nat → Prop) (i : Nat) (o : Oper) (a : Act) (w : World), (∀ j, S j → j < ops.size) → (∀ (j : Nat) (oj : Oper), S j → ops[j]? = some oj → ∀ e ∈ oj.after, Region.binds .any e = true → S e.on) → ops[i]? = some o → ¬ S i →
      (∀ e ∈ o.after, Region.binds .any e = true → S e.on) → I S a w → wpOpIn F n P ops Q i (I fun j => S j ∨ j = i) a w)
    (hend : ∀ S a w, (∀ i, i < ops.size → S i) → I S a w → Q .normal a w)
    (h0 : ∀ S : Nat → Prop, (∀ i, ¬ S i) → I S a { w with drawn := w.drawn + 1 }) : (Code.region id ops true).wpIn F n P Q a w := by
  refine wpIn_region_any hm (wpAnyIn_inv ok hstep hend _ _ _ _ (by simp) ?_ ?_ ?_)
  · have := List.length_filter_le (fun i => !(Array.replicate ops.size false).getD i false) (List.range ops.size)
    simpa using this
  · intro j oj hj
    unfold isDone at hj
    rw [Array.getD_eq_getD_getElem?, Array.getElem?_replicate] at hj
    split at hj <;> simp at hj
  · refine h0 _ fun i hi => ?_
    unfold isDone at hi
    rw [Array.getD_eq_getD_getElem?, Array.getElem?_replicate] at hi
    split at hi <;> simp at hi
end Go.Vc
