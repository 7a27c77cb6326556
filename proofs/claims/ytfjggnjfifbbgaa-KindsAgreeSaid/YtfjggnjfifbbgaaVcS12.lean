/- A part of the proof: lemmas and walks that the last text of the claim joins; no condition. -/
import Derived.Test.YtfjggnjfifbbgaaVcS11
namespace Go.Vc
set_option autoImplicit false
set_option linter.unusedVariables false

theorem ret1_sound {Φ : Phi} {sv res : SV} (h : ret1 Φ sv res) {r β v w} (m : MemSat r β Φ w) (hr : Rel r β sv v) (β' : Bind) : Rel (frz r β Φ w) β' res v := by
  unfold ret1 at h
  split at h
  · obtain ⟨rfl, rfl⟩ := h; cases hr; exact .int
  · subst h; cases hr; exact .bool
  · subst h; cases hr; rename_i h; exact .str h
  · split at h
    · rename_i id _ _ _ _ _ _ sz d enc l hg
      rw [← h]
      cases hr
      exact (own_frz m hg).pure rfl β'
    · rename_i id _ _ _ _ _ sz rows hg
      obtain ⟨rfl, rfl⟩ := h
      cases hr
      exact .rd ((ownl_frz m hg).pure rfl β')
    · exact h.elim
  · subst h; cases hr; exact .rd .litsE
  · obtain ⟨rfl, rfl⟩ := h
    exact .rd ((hr.mono (frz_le m)).pure rfl β')
  · cases hb : SV.okIds (fun _ => false) res with
    | false => rw [hb] at h; exact h.elim
    | true =>
      rw [hb] at h
      simp only [cond_true] at h
      subst h
      exact (hr.mono (frz_le m)).pure hb β'

theorem ret1L_sound {Φ : Phi} {l : List SV} : ∀ {l' : List SV}, ret1L Φ l l' → l.length = l'.length ∧ ∀ (i : Nat) a b, l[i]? = some a → l'[i]? = some b → ret1 Φ a b := by
  induction l with
  | nil =>
    intro l' h
    cases l' with
    | nil => exact ⟨rfl, fun i a b h1 => by simp at h1⟩
    | cons => exact h.elim
  | cons x l ih =>
    intro l' h
    cases l' with
    | nil => exact h.elim
    | cons y l' =>
      obtain ⟨h1, h2⟩ := h
      obtain ⟨q1, q2⟩ := ih h2
      refine ⟨by simp [q1], fun i a b p1 p2 => ?_⟩
      cases i with
      | zero => simp at p1 p2; subst p1; subst p2; exact h1
      | succ i => exact q2 i a b (by simpa using p1) (by simpa using p2)
theorem getElem_of_len {α β : Type _} {l : List α} {l' : List β} (h : l.length = l'.length) {i : Nat} {b : β} (hb : l'[i]? = some b) : ∃ a, l[i]? = some a := by
  rcases Nat.lt_or_ge i l.length with hi | hi
  · exact ⟨l[i], List.getElem?_eq_getElem hi⟩
  · rw [List.getElem?_eq_none (by omega)] at hb; cases hb

theorem ret2_sound {Φ : Phi} {sv res : SV} (h : ret2 Φ sv res) {r β v w} (m : MemSat r β Φ w) (hr : Rel r β sv v) (β' : Bind) : Rel (frz r β Φ w) β' res v := by
  unfold ret2 at h
  split at h
  · obtain ⟨h1, h2⟩ := ret1L_sound h
    obtain ⟨cs, rfl, hl, hc⟩ := hr.agg_inv
    refine .agg (by rw [hl, h1]) fun i b v p1 p2 => ?_
    obtain ⟨a, ha⟩ := getElem_of_len h1 p1
    exact ret1_sound (h2 i a b ha p1) m (hc i a v ha p2) β'
  · exact ret1_sound h m hr β'
theorem ret2L_sound {Φ : Phi} {l : List SV} : ∀ {l' : List SV}, ret2L Φ l l' → l.length = l'.length ∧ ∀ (i : Nat) a b, l[i]? = some a → l'[i]? = some b → ret2 Φ a b := by
  induction l with
  | nil =>
    intro l' h
    cases l' with
    | nil => exact ⟨rfl, fun i a b h1 => by simp at h1⟩
    | cons => exact h.elim
  | cons x l ih =>
    intro l' h
    cases l' with
    | nil => exact h.elim
    | cons y l' =>
      obtain ⟨h1, h2⟩ := h
      obtain ⟨q1, q2⟩ := ih h2
      refine ⟨by simp [q1], fun i a b p1 p2 => ?_⟩
      cases i with
      | zero => simp at p1 p2; subst p1; subst p2; exact h1
      | succ i => exact q2 i a b (by simpa using p1) (by simpa using p2)
theorem ret3_sound {Φ : Phi} {sv res : SV} (h : ret3 Φ sv res) {r β v w} (m : MemSat r β Φ w) (hr : Rel r β sv v) (β' : Bind) : Rel (frz r β Φ w) β' res v := by
  unfold ret3 at h
  split at h
  · obtain ⟨h1, h2⟩ := ret2L_sound h
    cases hr with
    | tup hl hc =>
      refine .tup (by rw [hl, h1]) fun i b v p1 p2 => ?_
      obtain ⟨a, ha⟩ := getElem_of_len h1 p1
      exact ret2_sound (h2 i a b ha p1) m (hc i a v ha p2) β'
  · exact ret2_sound h m hr β'

/-- a result variable, read -/
def resF (tmps : Array Value) : ResultVar → Sem Value
  | .tmp t => pure (tmps.getD t undef)
  | .cell ad t => do loadVar t (← asAddr (tmps.getD ad undef))
/-- the result variables, read at the end -/
theorem resK_sound {P : Program} {σ Φ} {rs : List ResultVar} : ∀ {K : List SV → Prop}, resK P σ Φ rs K → ∃ l, K l ∧ ∀ r β (a : Act) w, Agree r β σ a.tmps → MemSat r β Φ w →
    ∃ vs, RelL r β l vs ∧ (rs.mapM (resF a.tmps)).run P w = .ok vs w := by
  induction rs with
  | nil => intro K h; exact ⟨[], h, fun r β a w ha m => ⟨[], ⟨rfl, fun i sv v h => by simp at h⟩, rfl⟩⟩
  | cons x rs ih =>
    intro K h
    cases x with
    | tmp t =>
      simp only [resK] at h
      obtain ⟨sv, h, hr⟩ := opK_sound h
      obtain ⟨l, hk, hl⟩ := ih h
      refine ⟨_, hk, fun r β a w ha m => ?_⟩
      obtain ⟨vs, h1, h2⟩ := hl r β a w ha m
      refine ⟨_, RelL.cons (hr r β a _ (Sm.plain ha)) h1, ?_⟩
      simp only [List.mapM_cons, resF, Sem.run_bind, Sem.run_pure, Result.andThen_ok, h2]
      rfl
    | cell ad t =>
      simp only [resK] at h
      obtain ⟨sv, h, hr⟩ := opK_sound h
      cases sv <;> simp only at h
      rename_i id off
      split at h
      · rename_i cs hg
        obtain ⟨sv', h, hp⟩ := partK_sound h
        obtain ⟨l, hk, hl⟩ := ih h
        refine ⟨_, hk, fun r β a w ha m => ?_⟩
        obtain ⟨vs, h1, h2⟩ := hl r β a w ha m
        have hloc := hr r β a _ (Sm.plain ha)
        generalize hq : a.eval (.tmp ad) = v at hloc
        cases hloc with
        | loc hβ =>
          rename_i b
          have hs := m.rows hg
          cases hs with
          | box hxb hw hlen hc =>
            rename_i b' c T
            rw [hβ] at hxb
            obtain rfl : b = b' := by simpa using hxb
            obtain ⟨v, hrel, _, hload⟩ := hp r β c.toList (toList_rel hlen hc)
            refine ⟨_, RelL.cons hrel h1, ?_⟩
            have hl2 := hload w b 0 (fun j u hj => by rw [cell_of_block hw]; simpa using hj)
            simp only [Nat.zero_add] at hl2
            have hq' : a.tmps.getD ad undef = .pointer (some ⟨b, off, none⟩) := hq
            simp only [List.mapM_cons, resF, Sem.run_bind, hq', asAddr, Sem.run_pure, Result.andThen_ok, hl2, h2]
      · exact h.elim

theorem tup_rel {r β l vs} (h : RelL r β l vs) : Rel r β (tupSV l) (if h : vs.toArray.size = 1 then vs.toArray[0] else .tuple vs.toArray) := by
  obtain ⟨h1, h2⟩ := h
  match l, vs, h1 with
  | [], [], _ => exact .tup (cs := []) rfl (fun i sv v h => by simp at h)
  | [x], [v], _ => exact h2 0 x v rfl rfl
  | x :: y :: l, v :: u :: vs, h1 =>
    rw [dif_neg (by simp)]
    exact .tup h1 h2

theorem results_run {P : Program} {fn : Func} {tmps : Array Value} {vs : List Value} {w : World}
    (h : (fn.results.toList.mapM (resF tmps)).run P w = .ok vs w) :
    (results fn tmps).run P w = .ok (if h : vs.toArray.size = 1 then vs.toArray[0] else .tuple vs.toArray) w := by
  have e : results fn tmps = (do let vs ← fn.results.mapM (resF tmps); pure (if h : vs.size = 1 then vs[0] else .tuple vs)) := by
    unfold results
    congr 2
  rw [e, Sem.run_bind]
  have : (fn.results.mapM (resF tmps)).run P w = .ok vs.toArray w := by
    rw [← Array.toArray_toList (xs := fn.results), List.mapM_toArray, Sem.run_map]
    rw [h]
    rfl
  rw [this]
  rfl

theorem argE_get {args : List SV} : ∀ {i k : Nat} {g sv}, Env.get (argE i args) k = some (g, sv) → g = none ∧ i ≤ k ∧ args[k - i]? = some sv := by
  induction args with
  | nil => intro i k g sv h; simp [argE, Env.get] at h
  | cons x l ih =>
    intro i k g sv h
    simp only [argE] at h
    rw [get_cons] at h
    cases hb : Nat.beq i k with
    | true =>
      obtain rfl := beq_of hb
      rw [hb] at h
      simp only [cond_true, Option.some.injEq, Prod.mk.injEq] at h
      obtain ⟨rfl, rfl⟩ := h
      exact ⟨rfl, Nat.le_refl _, by simp⟩
    | false =>
      rw [hb] at h
      obtain ⟨h1, h2, h3⟩ := ih h
      refine ⟨h1, by omega, ?_⟩
      rw [show k - i = (k - (i + 1)) + 1 by omega]
      simpa using h3

theorem Calls.mono' {P : Program} {f : FuncId} {args : Array Value} {w : World} {R R' : Ending → World → Prop}
    (h : Calls P f args w R) (hr : ∀ e w', R e w' → R' e w') : Calls P f args w R' := h.mono hr

/-- A FUNCTION OF PLAIN DATA. -/
theorem Fn.intro {B : Base} {f : FuncId} {fn : Func} {c : Code} {args : List SV} {pre : Prop} {res : SV} {N : Nat} (L : List Nat)
    (call : ∀ (vs : Array Value) (w : World), (callFunc f vs).run B.P w = .ok (.enter f vs) w)
    (hf : B.P.funcs[f]? = some fn) (hb : fn.body = some c) (hN : fn.ntmps = N) (hok : (Nat.ble args.length N && codeOk N c) = true)
    (h : pre → vc B L c (retKT B.P fn.results.toList res) (argE 0 args) [] 0) : Fn B f args pre res := by
  simp only [Bool.and_eq_true] at hok
  obtain ⟨hlen, hok⟩ := hok
  have hlen := Nat.le_of_ble_eq_true hlen
  refine ⟨call, fun hp r β w vs hG m hl => ?_⟩
  refine calls_of_wp hf hb ?_
  have hvl : vs.length = args.length := hl.1
  have hsz : vs.toArray.size = args.length := by simpa using hvl
  rw [hN]
  have hget : ∀ (k : Nat) (v : Value), vs[k]? = some v → (vs.toArray ++ Array.replicate (N - vs.toArray.size) undef)[k]? = some v := by
    intro k v hk
    have : k < vs.length := by
      rcases Nat.lt_or_ge k vs.length with h | h
      · exact h
      · rw [List.getElem?_eq_none h] at hk; cases hk
    rw [Array.getElem?_append_left (by simpa using this)]
    simpa using hk
  have s : Sat B ⟨r, β, [], w⟩ N r β (argE 0 args) [] { tmps := vs.toArray ++ Array.replicate (N - vs.toArray.size) undef, defers := [] } w := by
    refine ⟨fun k g sv hg => ?_, m, hG, Mem.le_refl r, Hid.refl .., rfl, by simp; omega⟩
    obtain ⟨rfl, _, hk⟩ := argE_get hg
    have hk : args[k]? = some sv := by simpa using hk
    obtain ⟨v, hv⟩ := getElem_of_len hvl hk
    exact ⟨v, hget k v hv, hl.2 k sv v hk hv⟩
  have hng : NoGd (argE 0 args) := fun k g sv hg => (argE_get hg).1
  refine wp_mono (vc_sound c _ r β (argE 0 args) [] 0 _ w (h hp) hok s hng) fun ex a' w' hq => ?_
  have fin : ∀ {ex}, (∀ i, ex ≠ Ex.exit i) → Out B ⟨r, β, [], w⟩ N (retKT B.P fn.results.toList res) ex a' w' →
      a'.defers = [] ∧ ∃ v, (results fn a'.tmps).run B.P w' = .ok v w' ∧ ∃ v' sv r' β' Φ', Ending.returned v = .returned v' ∧ (sv = res ∧ Φ' = []) ∧ Rel r' β' sv v' ∧ MemSat r' β' Φ' w' ∧ r.le r' ∧ Hid r β [] w r' β' Φ' w' := by
    intro ex hex ⟨r', β', σ', Φ', n', hk, s', _⟩
    have hk : resK B.P σ' Φ' fn.results.toList fun l => Fin (ret3 Φ' (tupSV l) res) := by
      cases ex with
      | exit i => exact (hex i rfl).elim
      | normal => exact hk
      | ret => exact hk
    obtain ⟨l, hfin, hl'⟩ := resK_sound hk
    obtain ⟨us, hus, hrun⟩ := hl' r' β' a' w' s'.agree s'.mem
    refine ⟨s'.defers, _, results_run hrun, _, res, frz r' β' Φ' w', β', [], rfl, ⟨rfl, rfl⟩, ret3_sound hfin.h s'.mem (tup_rel hus) β', frz_mem s'.mem β', Mem.le_trans s'.le (frz_le s'.mem), ?_⟩
    refine ⟨s'.hid.os, s'.hid.tape, s'.hid.output, s'.hid.size, fun b hb' h1 h2 => ?_⟩
    obtain ⟨q1, q2, q3⟩ := s'.hid.block b hb' h1 h2
    refine ⟨q1, ?_, fun id ch h => by simp [Phi.get] at h⟩
    rw [frz_not (fun id ch g1 _ => q3 id ch g1)]
    exact q2
  cases ex with
  | normal => obtain ⟨h1, v, h2, h3⟩ := fin (by intro i h; cases h) hq; exact ⟨h1, v, h2, h3⟩
  | ret => obtain ⟨h1, v, h2, h3⟩ := fin (by intro i h; cases h) hq; exact ⟨h1, v, h2, h3⟩
  | exit i =>
    obtain ⟨r', β', σ', Φ', n', hk, _⟩ := hq
    exact hk.elim
  | goto l => exact hq.elim
  | panic ch => exact hq.elim
  | outgrown => exact hq.elim

theorem absTF {p : Prop} (h : true = false) : p := nomatch h
theorem absFT {p : Prop} (h : false = true) : p := nomatch h
/-- A contract of the kit's that leaves the world as it is. -/
theorem Fn.lift {B : Base} {f : FuncId} {args : List SV} {pre : Prop} {res : SV}
    (call : ∀ (vs : Array Value) (w : World), (callFunc f vs).run B.P w = .ok (.enter f vs) w)
    (h : pre → ∀ (r : Mem) (β : Bind) (w : World) (vs : List Value), B.G r → MemSat r β [] w → RelL r β args vs →
      ∃ v, Calls B.P f vs.toArray w (fun e w' => e = .returned v ∧ w' = w) ∧ Rel r β res v) : Fn B f args pre res := by
  refine ⟨call, fun hp r β w vs hG m hl => ?_⟩
  obtain ⟨v, hc, hr⟩ := h hp r β w vs hG m hl
  refine hc.mono fun e w' hh => ?_
  obtain ⟨rfl, rfl⟩ := hh
  exact ⟨v, res, r, β, [], rfl, ⟨rfl, rfl⟩, hr, m, Mem.le_refl r, Hid.refl ..⟩
theorem RelL.str1 {r : Mem} {β : Bind} {s : List UInt8} {vs : List Value} (h : RelL r β [.str s] vs) : vs = [.string ⟨s.toArray⟩] ∧ s.length ≤ 9223372036854775807 := by
  obtain ⟨hl, h⟩ := h
  match vs, hl with
  | [a], _ =>
    have h0 := h 0 _ a rfl rfl
    cases h0 with
    | str k => exact ⟨rfl, k⟩
theorem RelL.str2 {r : Mem} {β : Bind} {s t : List UInt8} {vs : List Value} (h : RelL r β [.str s, .str t] vs) :
    vs = [.string ⟨s.toArray⟩, .string ⟨t.toArray⟩] ∧ s.length ≤ 9223372036854775807 ∧ t.length ≤ 9223372036854775807 := by
  obtain ⟨hl, h⟩ := h
  match vs, hl with
  | [a, b], _ =>
    have h0 := h 0 _ a rfl rfl
    have h1 := h 1 _ b rfl rfl
    cases h0 with
    | str k => cases h1 with
      | str k1 => exact ⟨rfl, k, k1⟩
end Go.Vc
