/- A part of the proof: lemmas and walks that the last text of the claim joins; no condition. -/
import Derived.Test.YtfjggnjfifbbgaaVcS5
namespace Go.Vc
set_option autoImplicit false
set_option linter.unusedVariables false

theorem tmp_bool {a : Act} {s : Nat} {t : Bool} (h : a.eval (.tmp s) = .bool t) : a.tmps[s]? = some (.bool t) := by
  simp only [Act.eval, Array.getD_eq_getD_getElem?] at h
  cases hq : a.tmps[s]? with
  | none => rw [hq] at h; simp [undef] at h
  | some v => rw [hq] at h; simp at h; rw [h]

theorem Sm.more {r β σ t ctx g s w} (sm : Sm r β σ t ctx g) (h : t[s]? = some (.bool w)) : Sm r β σ t ((s, w) :: ctx) g :=
  ⟨sm.agree, fun s' w' hm => by
    rcases ctxMem_cons _ _ _ _ _ hm with ⟨rfl, rfl⟩ | hm
    · exact h
    · exact sm.ctx _ _ hm, sm.valid⟩

theorem evPick_sound {σ ctx c a b} {K : SV → Prop} (h : evPick σ ctx c a b K) :
    ∃ sv, K sv ∧ ∀ r β (ac : Act) g, Sm r β σ ac.tmps ctx g → ∃ v, Rel r β sv v ∧ ∀ (P : Program) w dst ty pos after guard, (execOp ac.eval ⟨dst, .pick c a b, ty, pos, after, guard⟩).run P w = .ok (.value v) w := by
  unfold evPick at h
  split at h
  · rename_i s
    obtain ⟨svc, hk, hc⟩ := opK_sound h
    cases svc <;> simp only at hk
    rename_i t
    obtain ⟨svx, hk, hx⟩ := opK_sound hk
    obtain ⟨svy, hk, hy⟩ := opK_sound hk
    have ev : ∀ r β (ac : Act) g, Sm r β σ ac.tmps ctx g → ac.eval (.tmp s) = .bool t ∧ (t = true → Rel r β svx (ac.eval a)) ∧ (t = false → Rel r β svy (ac.eval b)) := by
      intro r β ac g sm
      have hcv := hc r β ac g sm
      generalize hq : ac.eval (.tmp s) = v at hcv
      cases hcv
      have ht := tmp_bool hq
      exact ⟨rfl, fun h => by subst h; exact hx r β ac g (sm.more ht), fun h => by subst h; exact hy r β ac g (sm.more ht)⟩
    have fin : ∀ {sv : SV}, K sv → (∀ r β (ac : Act) g, Sm r β σ ac.tmps ctx g → Rel r β sv (if t then ac.eval a else ac.eval b)) → 
        ∃ sv, K sv ∧ ∀ r β (ac : Act) g, Sm r β σ ac.tmps ctx g → ∃ v, Rel r β sv v ∧ ∀ (P : Program) w dst ty pos after guard, (execOp ac.eval ⟨dst, .pick (.tmp s) a b, ty, pos, after, guard⟩).run P w = .ok (.value v) w := by
      intro sv hk hr
      refine ⟨sv, hk, fun r β ac g sm => ⟨_, hr r β ac g sm, fun P w dst ty pos after guard => ?_⟩⟩
      simp only [execOp, (ev r β ac g sm).1, asBool, Sem.run_bind, Sem.run_pure, Result.andThen_ok]
    split at hk
    · rename_i y
      refine fin hk fun r β ac g sm => ?_
      obtain ⟨_, h1, h2⟩ := ev r β ac g sm
      cases t with
      | true => exact .bool
      | false => have := h2 rfl; simpa using this
    · rename_i x
      refine fin hk fun r β ac g sm => ?_
      obtain ⟨_, h1, h2⟩ := ev r β ac g sm
      cases t with
      | true => have := h1 rfl; simpa using this
      | false => exact .bool
    · rename_i x y _ _
      refine fin hk fun r β ac g sm => ?_
      obtain ⟨_, h1, h2⟩ := ev r β ac g sm
      cases t with
      | true => have := h1 rfl; simpa using this
      | false => have := h2 rfl; simpa using this
    · exact hk.elim
  · exact h.elim

theorem len_eq (l : List SV) : len l = l.length := by
  induction l with
  | nil => rfl
  | cons x r ih => simp [len, ih]

theorem allOne_get {l : List SV} (h : allOne l = true) (i : Nat) (sv : SV) (hi : l[i]? = some sv) : sv.one = true := by
  induction l generalizing i with
  | nil => simp at hi
  | cons x r ih =>
    simp only [allOne, Bool.and_eq_true] at h
    cases i with
    | zero => simp at hi; subst hi; exact h.1
    | succ i => simp at hi; exact ih h.2 i hi

theorem cells_one {v : Value} (h : v.oneCell' = true) : v.cells = #[v] := by
  cases v <;> first | rfl | cases h

theorem cellsK_sound {x : SV} {K : List SV → Prop} (h : cellsK x K) :
    ∃ l, K l ∧ allOne l = true ∧ (∀ p, x.okIds p = SV.okIdsL p l) ∧ ∀ r β v, Rel r β x v → RelL r β l v.cells.toList := by
  unfold cellsK at h
  split at h
  · rename_i l
    cases ho : allOne l with
    | false => rw [ho] at h; exact h.elim
    | true =>
      rw [ho] at h
      refine ⟨l, h, ho, fun p => rfl, fun r β v hv => ?_⟩
      obtain ⟨cs, rfl, hl⟩ := hv.agg_inv
      simpa [Value.cells] using hl
  · cases ho : x.one with
    | false => rw [ho] at h; exact h.elim
    | true =>
      rw [ho] at h
      refine ⟨_, h, by simp [allOne, ho], fun p => by simp [SV.okIdsL], fun r β v hv => ?_⟩
      rw [cells_one (hv.oneCell ho)]
      refine ⟨rfl, fun i sv u q1 q2 => ?_⟩
      cases i with
      | zero => simp at q1 q2; subst q1; subst q2; exact hv
      | succ i => simp at q1

theorem zeroK_sound {P : Program} {t : TypeId} {K : List SV → Prop} (h : zeroK P t K) :
    ∃ l z, K l ∧ allOne l = true ∧ SV.okIdsL (fun _ => false) l = true ∧ (∀ w, (zeroValue t).run P w = .ok z w) ∧ (∀ r β, RelL r β l z.cells.toList) := by
  unfold zeroK at h
  split at h
  · rename_i i hi
    split at h
    · rename_i z hz
      obtain ⟨sv, hk, hid, hr⟩ := constAK_sound h
      obtain ⟨l, hk, ho, hids, hl⟩ := cellsK_sound hk
      exact ⟨l, z, hk, ho, by rw [← hids]; exact hid, fun w => by simp [zeroValue, typeInfo, hi, hz], fun r β => hl r β z (hr r β)⟩
    · exact h.elim
  · exact h.elim

theorem fillAt_sound {xs : List SV} {cs : List SV} : ∀ {off : Nat} {K : List SV → Prop}, fillAt cs off xs K →
    ∃ l, K l ∧ l.length = cs.length ∧ (xs ≠ [] → off + xs.length ≤ cs.length) ∧ ∀ j : Nat, l[j]? = if off ≤ j ∧ j < off + xs.length then xs[j - off]? else cs[j]? := by
  induction cs generalizing xs with
  | nil =>
    intro off K h
    cases xs with
    | nil => simp only [fillAt] at h; exact ⟨[], h, rfl, fun h => (h rfl).elim, fun j => by simp⟩
    | cons x xs => simp only [fillAt] at h
  | cons c r ih =>
    intro off K h
    cases xs with
    | nil =>
      have h : K (c :: r) := by cases off <;> simpa only [fillAt] using h
      refine ⟨_, h, rfl, fun h => (h rfl).elim, fun j => ?_⟩
      rw [if_neg (by simp)]
    | cons x xs =>
      cases off with
      | zero =>
        simp only [fillAt] at h
        obtain ⟨l, hk, h1, h2, h3⟩ := ih h
        refine ⟨_, hk, by simp [h1], fun _ => ?_, fun j => ?_⟩
        · by_cases hx : xs = []
          · subst hx; simp
          · have := h2 hx; simp at this ⊢; omega
        · cases j with
          | zero => simp
          | succ j =>
            simp only [List.getElem?_cons_succ, h3, Nat.zero_le, true_and, Nat.zero_add, List.length_cons, Nat.sub_zero, Nat.add_lt_add_iff_right]
      | succ o =>
        simp only [fillAt] at h
        obtain ⟨l, hk, h1, h2, h3⟩ := ih h
        refine ⟨_, hk, by simp [h1], fun hx => ?_, fun j => ?_⟩
        · have := h2 hx; simp at this ⊢; omega
        · cases j with
          | zero => simp
          | succ j =>
            simp only [List.getElem?_cons_succ, h3]
            by_cases hc : o ≤ j ∧ j < o + (x :: xs).length
            · rw [if_pos hc, if_pos (by omega)]; congr 1; omega
            · rw [if_neg hc, if_neg (by omega)]

theorem foldl_set (vs : List Value) : ∀ (cs : Array Value) (off k : Nat) (j : Nat), off + k + vs.length ≤ cs.size →
    ((vs.zipIdx k).foldl (fun (cs : Array Value) (c, j) => cs.setIfInBounds (off + j) c) cs)[j]? = if off + k ≤ j ∧ j < off + k + vs.length then vs[j - (off + k)]? else cs[j]? := by
  induction vs with
  | nil => intro cs off k j _; simp; omega
  | cons v vs ih =>
    intro cs off k j hs
    simp only [List.zipIdx_cons, List.foldl_cons]
    rw [ih _ _ _ _ (by simp at hs ⊢; omega)]
    simp only [List.length_cons] at hs ⊢
    by_cases h1 : off + (k + 1) ≤ j ∧ j < off + (k + 1) + vs.length
    · rw [if_pos h1, if_pos (by omega)]
      rw [show j - (off + k) = (j - (off + (k + 1))) + 1 by omega, List.getElem?_cons_succ]
    · rw [if_neg h1]
      by_cases h2 : j = off + k
      · subst h2
        rw [if_pos (by omega)]
        rw [Array.getElem?_setIfInBounds_self_of_lt (by omega)]
        simp
      · rw [if_neg (by omega), Array.getElem?_setIfInBounds_ne (by omega)]
theorem foldl_size (vs : List Value) : ∀ (cs : Array Value) (off k : Nat), ((vs.zipIdx k).foldl (fun (cs : Array Value) (c, j) => cs.setIfInBounds (off + j) c) cs).size = cs.size := by
  induction vs with
  | nil => intro cs off k; rfl
  | cons v vs ih => intro cs off k; simp only [List.zipIdx_cons, List.foldl_cons]; rw [ih]; simp

theorem RelL.fill {r β cs l xs} {vs : Array Value} {us : Array Value} {off : Nat} (h : RelL r β cs vs.toList) (hx : RelL r β xs us.toList) (hl : l.length = cs.length)
    (hb : xs ≠ [] → off + xs.length ≤ cs.length) (hg : ∀ j : Nat, l[j]? = if off ≤ j ∧ j < off + xs.length then xs[j - off]? else cs[j]?) (hfit : off + us.size ≤ vs.size) :
    RelL r β l (us.zipIdx.foldl (fun (cs : Array Value) (c, j) => cs.setIfInBounds (off + j) c) vs).toList := by
  have hus : us.toList.length = xs.length := hx.1
  have e : us.zipIdx.foldl (fun (cs : Array Value) (c, j) => cs.setIfInBounds (off + j) c) vs = (us.toList.zipIdx 0).foldl (fun (cs : Array Value) (c, j) => cs.setIfInBounds (off + j) c) vs := by
    rw [← Array.foldl_toList]; simp
  rw [e]
  refine ⟨by simp only [Array.length_toList, foldl_size]; rw [hl]; simpa using h.1, fun i sv v q1 q2 => ?_⟩
  rw [hg] at q1
  have q2' : ((us.toList.zipIdx 0).foldl (fun (cs : Array Value) (c, j) => cs.setIfInBounds (off + j) c) vs)[i]? = some v := by simpa using q2
  rw [foldl_set _ _ _ _ _ (by simpa using hfit)] at q2'
  simp only [Nat.add_zero, hus] at q2'
  by_cases hc : off ≤ i ∧ i < off + xs.length
  · rw [if_pos hc] at q1 q2'
    exact hx.2 _ _ _ q1 (by simpa using q2')
  · rw [if_neg hc] at q1 q2'
    exact h.2 _ _ _ q1 (by simpa using q2')

theorem fillK_sound {σ ctx place} {parts : List (Nat × Operand)} : ∀ {cs : List SV} {K : List SV → Prop}, fillK σ ctx place parts cs K →
    ∃ l, K l ∧ ∀ r β (ac : Act) g, Sm r β σ ac.tmps ctx g → ∀ vs : Array Value, RelL r β cs vs.toList →
      ∃ us : Array Value, Instr.fill place vs (parts.map fun (i, x) => (i, ac.eval x)) = some us ∧ RelL r β l us.toList := by
  induction parts with
  | nil => intro cs K h; exact ⟨cs, h, fun r β ac g sm vs hv => ⟨vs, rfl, hv⟩⟩
  | cons p rest ih =>
    intro cs K h
    obtain ⟨i, x⟩ := p
    simp only [fillK] at h
    split at h
    · rename_i off sz hp
      obtain ⟨sv, hk, hx⟩ := opK_sound h
      obtain ⟨xs, hk, ho, _, hxs⟩ := cellsK_sound hk
      cases hz0 : Nat.beq sz 0 with
      | true => rw [hz0] at hk; exact hk.elim
      | false =>
      rw [hz0] at hk
      simp only [cond_false] at hk
      cases hz : Nat.beq (len xs) sz with
      | false => rw [hz] at hk; exact hk.elim
      | true =>
        rw [hz] at hk
        have hz := beq_of hz
        rw [len_eq] at hz
        obtain ⟨l1, hk, h1, h2, h3⟩ := fillAt_sound hk
        obtain ⟨l, hk, hr⟩ := ih hk
        refine ⟨l, hk, fun r β ac g sm vs hv => ?_⟩
        have hxv := hxs r β _ (hx r β ac g sm)
        have hsz : (ac.eval x).cells.size = sz := by have := hxv.1; simp at this; omega
        have hoff : off + (ac.eval x).cells.size ≤ vs.size := by
          have hx0 : xs ≠ [] := by
            intro hx0
            rw [hx0] at hz
            simp at hz
            rw [← hz] at hz0
            cases hz0
          have := h2 hx0
          have hv1 := hv.1
          simp at hv1
          omega
        obtain ⟨us, hu, hl⟩ := hr r β ac g sm _ (hv.fill hxv h1 h2 h3 hoff)
        refine ⟨us, ?_, hl⟩
        simp only [List.map_cons, Instr.fill, hp, hsz]
        rw [hsz] at hoff
        simp only [ne_eq, not_true_eq_false, decide_false, Bool.false_or, decide_eq_true_eq, show ¬ (off + sz > vs.size) by omega, if_false]
        exact hu
    · exact h.elim
end Go.Vc
