/- A part of the proof: lemmas and walks that the last text of the claim joins; no condition. -/
import Derived.Test.YtfjggnjfifbbgaaVcCode
namespace Go.Vc
set_option autoImplicit false
set_option linter.unusedVariables false

theorem nth_eq {α : Type _} (l : List α) (i : Nat) : nth l i = l[i]? := by
  induction l generalizing i with
  | nil => simp [nth]
  | cons x r ih => cases i with
    | zero => simp [nth]
    | succ i => simp [nth, ih]
theorem beq_of {a b : Nat} (h : Nat.beq a b = true) : a = b := Nat.eq_of_beq_eq_true h
theorem kEq_of {a b : IntKind} (h : kEq a b = true) : a = b := by
  cases a <;> cases b <;> first | rfl | (simp [kEq, kCode] at h)

structure Sm (r : Mem) (β : Bind) (σ : Env) (t : Array Value) (ctx : Ctx) (g : Prop → Prop) : Prop where
  agree : Agree r β σ t
  ctx : ∀ s w, ctxMem s w ctx = true → t[s]? = some (.bool w)
  valid : ∀ p, g p → p

theorem constK_sound {x : Value} {K : SV → Prop} (h : constK x K) : ∃ sv, K sv ∧ sv.okIds (fun _ => false) = true ∧ ∀ r β, Rel r β sv x := by
  unfold constK at h
  split at h
  · exact ⟨_, h, rfl, fun _ _ => .int⟩
  · exact ⟨_, h, rfl, fun _ _ => .bool⟩
  · rename_i l
    cases hb : Nat.ble l.length 9223372036854775807 with
    | true => rw [hb] at h; exact ⟨_, h, rfl, fun _ _ => .str (Nat.le_of_ble_eq_true hb)⟩
    | false => rw [hb] at h; exact ⟨_, h, rfl, fun _ _ => .v⟩
  · exact ⟨_, h, rfl, fun _ _ => .nils⟩
  · exact ⟨_, h, rfl, fun _ _ => .v⟩

theorem constsK_sound {xs : List Value} : ∀ {K : List SV → Prop}, constsK xs K → ∃ l, K l ∧ l.length = xs.length ∧ SV.okIdsL (fun _ => false) l = true ∧ ∀ r β (i : Nat) sv v, l[i]? = some sv → xs[i]? = some v → Rel r β sv v := by
  induction xs with
  | nil => intro K h; exact ⟨[], h, rfl, rfl, fun r β i sv v h1 h2 => by simp at h1⟩
  | cons x xs ih =>
    intro K h
    obtain ⟨a, ha, hi, hr⟩ := constK_sound h
    obtain ⟨l, hl, h1, h2, h3⟩ := ih ha
    refine ⟨a :: l, hl, by simp [h1], by simp [SV.okIdsL, hi, h2], ?_⟩
    intro r β i sv v q1 q2
    cases i with
    | zero => simp at q1 q2; subst q1; subst q2; exact hr _ _
    | succ i => simp at q1 q2; exact h3 r β i sv v q1 q2

theorem constAK_sound {x : Value} {K : SV → Prop} (h : constAK x K) : ∃ sv, K sv ∧ sv.okIds (fun _ => false) = true ∧ ∀ r β, Rel r β sv x := by
  unfold constAK at h
  split at h
  · obtain ⟨l, hl, h1, h2, h3⟩ := constsK_sound h
    exact ⟨_, hl, by simpa [SV.okIds] using h2, fun r β => .agg h1.symm (h3 r β)⟩
  · exact constK_sound h

theorem SV.okIds_mono {p q : Nat → Bool} (hpq : ∀ i, p i = true → q i = true) : ∀ (sv : SV), sv.okIds p = true → sv.okIds q = true := by
  intro sv
  refine SV.rec (motive_1 := fun sv => sv.okIds p = true → sv.okIds q = true) (motive_2 := fun _ => True) (motive_3 := fun l => SV.okIdsL p l = true → SV.okIdsL q l = true)
    ?_ ?_ ?_ ?_ ?_ ?_ ?_ ?_ ?_ ?_ ?_ ?_ ?_ ?_ ?_ ?_ ?_ ?_ ?_ sv
  all_goals try (intros; trivial)
  all_goals try (intros; simp_all [SV.okIds, SV.okIdsL]; done)

theorem ctxMem_cons (s w s' w' ctx) (h : ctxMem s w ((s', w') :: ctx) = true) : (s = s' ∧ w = w') ∨ ctxMem s w ctx = true := by
  simp only [ctxMem] at h
  cases hb : Nat.beq s s' with
  | true =>
    rw [hb] at h
    left
    refine ⟨beq_of hb, ?_⟩
    cases w <;> cases w' <;> simp_all
  | false => rw [hb] at h; exact .inr h

theorem Agree.tmp {r β σ t k sv} (h : Agree r β σ t) (hg : σ.get k = some (none, sv)) : Rel r β sv (t.getD k undef) := by
  obtain ⟨v, hv, hr⟩ := h _ _ _ hg
  rw [Array.getD_eq_getD_getElem?, hv]
  exact hr

theorem opK_sound {σ : Env} {ctx : Ctx} {x : Operand} {K : SV → Prop} (h : opK σ ctx x K) :
    ∃ sv, K sv ∧ ∀ r β (a : Act) g, Sm r β σ a.tmps ctx g → Rel r β sv (a.eval x) := by
  unfold opK at h
  split at h
  · rename_i t
    split at h
    · rename_i sv hg
      exact ⟨_, h, fun r β a g sm => sm.agree.tmp hg⟩
    · rename_i s w sv hg
      cases hm : ctxMem s w ctx with
      | true =>
        rw [hm] at h
        refine ⟨_, h, fun r β a g sm => ?_⟩
        obtain ⟨h1, _⟩ := sm.agree _ _ _ hg
        obtain ⟨v, hv, hr⟩ := h1 (sm.ctx _ _ hm)
        show Rel r β sv (a.tmps.getD t undef)
        rw [Array.getD_eq_getD_getElem?, hv]
        exact hr
      | false => rw [hm] at h; exact ⟨_, h, fun _ _ _ _ _ => .und⟩
    · exact ⟨_, h, fun _ _ _ _ _ => .und⟩
  · obtain ⟨sv, hk, _, hr⟩ := constAK_sound h
    exact ⟨sv, hk, fun r β _ _ _ => hr r β⟩
  · exact ⟨_, h, fun r β a g _ => .fn (cs := []) rfl (by intro i sv v h1; simp at h1)⟩
  · exact ⟨_, h, fun r β a g _ => .v⟩

theorem opsK_sound {σ : Env} {ctx : Ctx} {xs : List Operand} : ∀ {K : List SV → Prop}, opsK σ ctx xs K →
    ∃ l, K l ∧ l.length = xs.length ∧ ∀ r β (a : Act) g, Sm r β σ a.tmps ctx g → ∀ (i : Nat) sv x, l[i]? = some sv → xs[i]? = some x → Rel r β sv (a.eval x) := by
  induction xs with
  | nil => intro K h; exact ⟨[], h, rfl, fun r β a g _ i sv x h1 h2 => by simp at h1⟩
  | cons x xs ih =>
    intro K h
    obtain ⟨sv, hs, hr⟩ := opK_sound h
    obtain ⟨l, hl, h1, h2⟩ := ih hs
    refine ⟨sv :: l, hl, by simp [h1], ?_⟩
    intro r β a g sm i sv' x' q1 q2
    cases i with
    | zero => simp at q1 q2; subst q1; subst q2; exact hr r β a g sm
    | succ i => simp at q1 q2; exact h2 r β a g sm i sv' x' q1 q2

theorem ctxK_sound {σ : Env} : ∀ {f s w} {K : Ctx → (Prop → Prop) → Prop}, ctxK σ f s w K →
    ∃ ctx g, K ctx g ∧ ∀ r β t, Agree r β σ t → t[s]? = some (.bool w) → Sm r β σ t ctx g
  | 0, s, w, K, h => h.elim
  | f + 1, s, w, K, h => by
    unfold ctxK at h
    split at h
    · rename_i b hg
      refine ⟨_, _, h, fun r β t ha ht => ⟨ha, fun s' w' hm => ?_, fun p hp => hp ?_⟩⟩
      · rcases ctxMem_cons _ _ _ _ _ hm with ⟨rfl, rfl⟩ | hm
        · exact ht
        · simp [ctxMem] at hm
      · obtain ⟨v, hv, hr⟩ := ha _ _ _ hg
        cases hr
        rw [hv] at ht
        simpa using ht
    · rename_i s' w' b hg
      obtain ⟨ctx, g, hk, hs⟩ := ctxK_sound h
      refine ⟨_, _, hk, fun r β t ha ht => ?_⟩
      have hent := ha _ _ _ hg
      have ht' : t[s']? = some (.bool w') := by
        by_cases hc : t[s']? = some (.bool w')
        · exact hc
        · have := hent.2 hc
          rw [ht] at this
          simp [undef] at this
      have sm := hs r β t ha ht'
      refine ⟨ha, fun s1 w1 hm => ?_, fun p hp => sm.valid _ hp ?_⟩
      · rcases ctxMem_cons _ _ _ _ _ hm with ⟨rfl, rfl⟩ | hm
        · exact ht
        · exact sm.ctx _ _ hm
      · obtain ⟨v, hv, hr⟩ := hent.1 ht'
        cases hr
        rw [hv] at ht
        simpa using ht
    · exact h.elim

end Go.Vc
