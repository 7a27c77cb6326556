/- A part of the proof: lemmas and walks that the last text of the claim joins; no condition. -/
import Derived.Test.YtgggnkinalmmlaaVcA
import Derived.Laws.Sem
import Derived.Laws.Bits
import Derived.IntWalk
import Derived.Laws.Strings2
import Derived.Laws.Cells
import Derived.Laws.World
set_option linter.unusedVariables false
set_option linter.unusedSimpArgs false
namespace Go.Vc
set_option autoImplicit false
set_option linter.unusedVariables false

theorem nth_eq {α : Type _} (l : List α) (i : Nat) : nth l i = l[i]? := by
  induction l generalizing i with
  | nil => simp [nth]
  | cons x r ih => cases i with
    | zero => simp [nth]
    | succ i => simp [nth, ih]
theorem beq_of {a b : Nat} (h : Nat.beq a b = true) : a = b := Nat.eq_of_beq_eq_true h
theorem kEq_of {a b : IntKind} (h : kEq a b = true) : a = b := by
  cases a <;> cases b <;> first | rfl | (simp [kEq, kCode] at h)

/-- the slots of which p holds agree -/
def AgreeP (p : Nat → Prop) (r : Mem) (β : Bind) (σ : Env) (t : Array Value) : Prop := ∀ k g sv, p k → σ.get k = some (g, sv) → EntSat r β t k g sv
theorem Agree.P {r β σ t} (h : Agree r β σ t) (p : Nat → Prop) : AgreeP p r β σ t := fun k g sv _ => h k g sv
/-- the slots that an operand names -/
def Has (p : Nat → Prop) (x : Operand) : Prop := ∀ t, x = .tmp t → p t

structure Sm (p : Nat → Prop) (r : Mem) (β : Bind) (σ : Env) (t : Array Value) (ctx : Ctx) (g : Prop → Prop) : Prop where
  agree : AgreeP p r β σ t
  ctx : ∀ s w, ctxMem s w ctx = true → t[s]? = some (.bool w)
  valid : ∀ p, g p → p

theorem constK_sound {x : Value} {K : SV → Prop} (h : constK x K) : ∃ sv, K sv ∧ sv.okIds (fun _ => false) = true ∧ ∀ r β, Rel r β sv x := by
  unfold constK at h
  split at h
  · exact ⟨_, h, rfl, fun _ _ => .int⟩
  · exact ⟨_, h, rfl, fun _ _ => .bool⟩
  · rename_i l
    cases hb : Nat.ble l.length 9223372036854775807 with
    | true => rw [hb] at h; exact ⟨_, h, rfl, fun _ _ => .str (Nat.le_of_ble_eq_true hb)⟩
    | false => rw [hb] at h; exact ⟨_, h, rfl, fun _ _ => .v⟩
  · exact ⟨_, h, rfl, fun _ _ => .nils⟩
  · exact ⟨_, h, rfl, fun _ _ => .v⟩

theorem constsK_sound {xs : List Value} : ∀ {K : List SV → Prop}, constsK xs K → ∃ l, K l ∧ l.length = xs.length ∧ SV.okIdsL (fun _ => false) l = true ∧ ∀ r β (i : Nat) sv v, l[i]? = some sv → xs[i]? = some v → Rel r β sv v := by
  induction xs with
  | nil => intro K h; exact ⟨[], h, rfl, rfl, fun r β i sv v h1 h2 => by simp at h1⟩
  | cons x xs ih =>
    intro K h
    obtain ⟨a, ha, hi, hr⟩ := constK_sound h
    obtain ⟨l, hl, h1, h2, h3⟩ := ih ha
    refine ⟨a :: l, hl, by simp [h1], by simp [SV.okIdsL, hi, h2], ?_⟩
    intro r β i sv v q1 q2
    cases i with
    | zero => simp at q1 q2; subst q1; subst q2; exact hr _ _
    | succ i => simp at q1 q2; exact h3 r β i sv v q1 q2

theorem constAK_sound {x : Value} {K : SV → Prop} (h : constAK x K) : ∃ sv, K sv ∧ sv.okIds (fun _ => false) = true ∧ ∀ r β, Rel r β sv x := by
  unfold constAK at h
  split at h
  · obtain ⟨l, hl, h1, h2, h3⟩ := constsK_sound h
    exact ⟨_, hl, by simpa [SV.okIds] using h2, fun r β => .agg h1.symm (h3 r β)⟩
  · exact constK_sound h

theorem SV.okIds_mono {p q : Nat → Bool} (hpq : ∀ i, p i = true → q i = true) : ∀ (sv : SV), sv.okIds p = true → sv.okIds q = true := by
  intro sv
  refine SV.rec (motive_1 := fun sv => sv.okIds p = true → sv.okIds q = true) (motive_2 := fun _ => True) (motive_3 := fun l => SV.okIdsL p l = true → SV.okIdsL q l = true)
    ?_ ?_ ?_ ?_ ?_ ?_ ?_ ?_ ?_ ?_ ?_ ?_ ?_ ?_ ?_ ?_ ?_ ?_ ?_ ?_ ?_ sv
  all_goals try (intros; trivial)
  all_goals try (intros; simp_all [SV.okIds, SV.okIdsL]; done)

theorem ctxMem_cons (s w s' w' ctx) (h : ctxMem s w ((s', w') :: ctx) = true) : (s = s' ∧ w = w') ∨ ctxMem s w ctx = true := by
  simp only [ctxMem] at h
  cases hb : Nat.beq s s' with
  | true =>
    rw [hb] at h
    left
    refine ⟨beq_of hb, ?_⟩
    cases w <;> cases w' <;> simp_all
  | false => rw [hb] at h; exact .inr h

theorem Agree.tmp {p r β σ t k sv} (h : AgreeP p r β σ t) (hp : p k) (hg : σ.get k = some (none, sv)) : Rel r β sv (t.getD k undef) := by
  obtain ⟨v, hv, hr⟩ := h _ _ _ hp hg
  rw [Array.getD_eq_getD_getElem?, hv]
  exact hr

theorem opK_sound {σ : Env} {ctx : Ctx} {x : Operand} {K : SV → Prop} (h : opK σ ctx x K) :
    ∃ sv, K sv ∧ ∀ p r β (a : Act) g, Has p x → Sm p r β σ a.tmps ctx g → Rel r β sv (a.eval x) := by
  unfold opK at h
  split at h
  · rename_i t
    split at h
    · rename_i sv hg
      exact ⟨_, h, fun p r β a g hp sm => Agree.tmp sm.agree (hp _ rfl) hg⟩
    · rename_i s w sv hg
      cases hm : ctxMem s w ctx with
      | true =>
        rw [hm] at h
        refine ⟨_, h, fun p r β a g hp sm => ?_⟩
        obtain ⟨h1, _⟩ := sm.agree _ _ _ (hp _ rfl) hg
        obtain ⟨v, hv, hr⟩ := h1 (sm.ctx _ _ hm)
        show Rel r β sv (a.tmps.getD t undef)
        rw [Array.getD_eq_getD_getElem?, hv]
        exact hr
      | false => rw [hm] at h; exact ⟨_, h, fun _ _ _ _ _ _ _ => .und⟩
    · exact ⟨_, h, fun _ _ _ _ _ _ _ => .und⟩
  · obtain ⟨sv, hk, _, hr⟩ := constAK_sound h
    exact ⟨sv, hk, fun _ r β _ _ _ _ => hr r β⟩
  · exact ⟨_, h, fun _ r β a g _ _ => .fn (cs := []) rfl (by intro i sv v h1; simp at h1)⟩
  · exact ⟨_, h, fun _ r β a g _ _ => .v⟩

theorem opsK_sound {σ : Env} {ctx : Ctx} {xs : List Operand} : ∀ {K : List SV → Prop}, opsK σ ctx xs K →
    ∃ l, K l ∧ l.length = xs.length ∧ ∀ p r β (a : Act) g, (∀ x ∈ xs, Has p x) → Sm p r β σ a.tmps ctx g → ∀ (i : Nat) sv x, l[i]? = some sv → xs[i]? = some x → Rel r β sv (a.eval x) := by
  induction xs with
  | nil => intro K h; exact ⟨[], h, rfl, fun p r β a g _ _ i sv x h1 h2 => by simp at h1⟩
  | cons x xs ih =>
    intro K h
    obtain ⟨sv, hs, hr⟩ := opK_sound h
    obtain ⟨l, hl, h1, h2⟩ := ih hs
    refine ⟨sv :: l, hl, by simp [h1], ?_⟩
    intro p r β a g hp sm i sv' x' q1 q2
    cases i with
    | zero => simp at q1 q2; subst q1; subst q2; exact hr p r β a g (hp _ (by simp)) sm
    | succ i => simp at q1 q2; exact h2 p r β a g (fun y hy => hp y (by simp [hy])) sm i sv' x' q1 q2

/-- the guards of the slots of which p holds -/
def GdP (p : Nat → Prop) (σ : Env) : Prop := ∀ k s w sv, p k → σ.get k = some (some (s, w), sv) → p s

theorem ctxK_sound {σ : Env} : ∀ {f s w} {K : Ctx → (Prop → Prop) → Prop}, ctxK σ f s w K →
    ∃ ctx g, K ctx g ∧ ∀ p r β t, GdP p σ → p s → AgreeP p r β σ t → t[s]? = some (.bool w) → Sm p r β σ t ctx g
  | 0, s, w, K, h => h.elim
  | f + 1, s, w, K, h => by
    unfold ctxK at h
    split at h
    · rename_i b hg
      refine ⟨_, _, h, fun p r β t hgd hps ha ht => ⟨ha, fun s' w' hm => ?_, fun q hq => hq ?_⟩⟩
      · rcases ctxMem_cons _ _ _ _ _ hm with ⟨rfl, rfl⟩ | hm
        · exact ht
        · simp [ctxMem] at hm
      · obtain ⟨v, hv, hr⟩ := ha _ _ _ hps hg
        cases hr
        rw [hv] at ht
        simpa using ht
    · rename_i s' w' b hg
      obtain ⟨ctx, g, hk, hs⟩ := ctxK_sound h
      refine ⟨_, _, hk, fun p r β t hgd hps ha ht => ?_⟩
      have hent := ha _ _ _ hps hg
      have ht' : t[s']? = some (.bool w') := by
        by_cases hc : t[s']? = some (.bool w')
        · exact hc
        · have := hent.2 hc
          rw [ht] at this
          simp [undef] at this
      have sm := hs p r β t hgd (hgd _ _ _ _ hps hg) ha ht'
      refine ⟨ha, fun s1 w1 hm => ?_, fun q hq => sm.valid _ hq ?_⟩
      · rcases ctxMem_cons _ _ _ _ _ hm with ⟨rfl, rfl⟩ | hm
        · exact ht
        · exact sm.ctx _ _ hm
      · obtain ⟨v, hv, hr⟩ := hent.1 ht'
        cases hr
        rw [hv] at ht
        simpa using ht
    · exact h.elim

theorem Sm.plain {r β σ t} (h : Agree r β σ t) : Sm (fun _ => True) r β σ t [] (fun p => p) := ⟨h.P _, fun s w hm => by simp [ctxMem] at hm, fun p hp => hp⟩
theorem hasT (x : Operand) : Has (fun _ => True) x := fun _ _ => trivial

end Go.Vc

namespace Go.Vc
set_option autoImplicit false
set_option linter.unusedVariables false

theorem wrap_i64 {n : Int} (h : InI64 n) : IntKind.wrap .i64 n = n := by
  obtain ⟨h1, h2⟩ := h
  simp only [IntKind.wrap, IntKind.bits, IntKind.signed, Bool.true_and]
  split
  · rename_i hc
    simp at hc
    omega
  · rename_i hc
    simp at hc
    omega
theorem wrap_kIn {k : IntKind} {n : Int} (h : kIn k n) : k.wrap n = n := by
  cases k <;> simp only [kIn, IntKind.min, IntKind.max, IntKind.signed, IntKind.bits] at h <;>
    (obtain ⟨h1, h2⟩ := h
     simp only [IntKind.wrap, IntKind.bits, IntKind.signed, Bool.true_and, Bool.false_and, Bool.false_eq_true, if_false]
     first
      | (split
         · rename_i hc; simp at hc; simp at h1 h2; omega
         · rename_i hc; simp at hc; simp at h1 h2; omega)
      | (simp at h1 h2 ⊢; omega))

theorem wrapK_sound {k n g} {K : SV → Prop} (h : wrapK k n g K) : ∃ m, K (.int k m) ∧ ((∀ p, g p → p) → k.wrap n = m) := by
  unfold wrapK at h
  split at h
  · exact ⟨_, h.2, fun hv => wrap_i64 (hv _ h.1).h⟩
  · exact ⟨_, h, fun _ => rfl⟩

/-- the result of a pure operation -/
def Res (g : Prop → Prop) (K : SV → Prop) (s : Sem Value) : Prop := ∃ sv v, K sv ∧ ((∀ p, g p → p) → (∀ r β, Rel r β sv v) ∧ ∀ P w, s.run P w = .ok v w)

theorem evInt2_sound {op k a b g} {K : SV → Prop} (h : evInt2 op k a b g K) (h1 : op ≠ .shl) (h2 : op ≠ .shr) : Res g K (Go.binOp op 0 (.int k a) (.int k b)) := by
  cases op <;> simp only [evInt2] at h
  case add => obtain ⟨m, hk, he⟩ := wrapK_sound h; exact ⟨_, .int k m, hk, fun hv => ⟨fun _ _ => .int, fun P w => by simp [Go.binOp, Op.intArith, he hv]⟩⟩
  case sub => obtain ⟨m, hk, he⟩ := wrapK_sound h; exact ⟨_, .int k m, hk, fun hv => ⟨fun _ _ => .int, fun P w => by simp [Go.binOp, Op.intArith, he hv]⟩⟩
  case mul => obtain ⟨m, hk, he⟩ := wrapK_sound h; exact ⟨_, .int k m, hk, fun hv => ⟨fun _ _ => .int, fun P w => by simp [Go.binOp, Op.intArith, he hv]⟩⟩
  case quo =>
    obtain ⟨m, hk, he⟩ := wrapK_sound h.2
    exact ⟨_, .int k m, hk, fun hv => ⟨fun _ _ => .int, fun P w => by simp [Go.binOp, Op.intDiv, he hv, (hv _ h.1).h]⟩⟩
  case rem => exact ⟨_, _, h.2, fun hv => ⟨fun _ _ => .int, fun P w => by simp [Go.binOp, Op.intDiv, (hv _ h.1).h]⟩⟩
  case and => exact ⟨_, _, h, fun hv => ⟨fun _ _ => .int, fun P w => by simp [Go.binOp, Op.intBits, bitsI]⟩⟩
  case or => exact ⟨_, _, h, fun hv => ⟨fun _ _ => .int, fun P w => by simp [Go.binOp, Op.intBits, bitsI]⟩⟩
  case xor => exact ⟨_, _, h, fun hv => ⟨fun _ _ => .int, fun P w => by simp [Go.binOp, Op.intBits, bitsI]⟩⟩
  case andNot => exact ⟨_, _, h, fun hv => ⟨fun _ _ => .int, fun P w => by simp [Go.binOp, Op.intBits, bitsI]⟩⟩
  case eql => exact ⟨_, _, h, fun hv => ⟨fun _ _ => .bool, fun P w => by simp [Go.binOp, Op.intCmp]⟩⟩
  case neq => exact ⟨_, _, h, fun hv => ⟨fun _ _ => .bool, fun P w => by simp [Go.binOp, Op.intCmp]⟩⟩
  case lss => exact ⟨_, _, h, fun hv => ⟨fun _ _ => .bool, fun P w => by simp [Go.binOp, Op.intCmp]⟩⟩
  case leq => exact ⟨_, _, h, fun hv => ⟨fun _ _ => .bool, fun P w => by simp [Go.binOp, Op.intCmp]⟩⟩
  case gtr => exact ⟨_, _, h, fun hv => ⟨fun _ _ => .bool, fun P w => by simp [Go.binOp, Op.intCmp]⟩⟩
  case geq => exact ⟨_, _, h, fun hv => ⟨fun _ _ => .bool, fun P w => by simp [Go.binOp, Op.intCmp]⟩⟩

/-- the type of the operands plays no part at integers and strings -/
theorem binOp_int_type (op : BinOp) (t t' : TypeId) (k k' : IntKind) (a b : Int) : Go.binOp op t (.int k a) (.int k' b) = Go.binOp op t' (.int k a) (.int k' b) := by
  cases op <;> rfl
theorem binOp_str_type (op : BinOp) (t t' : TypeId) (a b : ByteArray) : Go.binOp op t (.string a) (.string b) = Go.binOp op t' (.string a) (.string b) := by
  cases op <;> rfl

theorem evInt_sound {op k a k' b g} {K : SV → Prop} {t : TypeId} (h : evInt op k a k' b g K) : Res g K (Go.binOp op t (.int k a) (.int k' b)) := by
  unfold evInt at h
  split at h
  · exact ⟨_, _, h.2, fun hv => ⟨fun _ _ => .int, fun P w => by
      have := (hv _ h.1).h
      simp [Go.binOp, Op.shift, show ¬ b < 0 by omega]⟩⟩
  · exact ⟨_, _, h.2, fun hv => ⟨fun _ _ => .int, fun P w => by
      have := (hv _ h.1).h
      simp [Go.binOp, Op.shift, show ¬ b < 0 by omega]⟩⟩
  · rename_i h1 h2
    cases hk : kEq k k' with
    | false => rw [hk] at h; exact h.elim
    | true =>
      rw [hk] at h
      obtain rfl := kEq_of hk
      rw [binOp_int_type op t 0]
      exact evInt2_sound h (by rintro rfl; exact h1 rfl) (by rintro rfl; exact h2 rfl)

theorem mk_append (a b : List UInt8) : (⟨a.toArray⟩ : ByteArray) ++ ⟨b.toArray⟩ = ⟨(a ++ b).toArray⟩ := by
  apply ByteArray.ext
  simp

theorem evStr_sound {op a b g} {K : SV → Prop} {t : TypeId} (h : evStr op a b g K) : Res g K (Go.binOp op t (.string ⟨a.toArray⟩) (.string ⟨b.toArray⟩)) := by
  rw [binOp_str_type op t 0]
  cases op <;> simp only [evStr] at h
  case add =>
    refine ⟨_, .string ⟨(a ++ b).toArray⟩, h.2, fun hv => ?_⟩
    have hb := (hv _ h.1).h
    refine ⟨fun _ _ => .str (by simpa using hb), fun P w => ?_⟩
    have : ¬ ((a.length + b.length : Nat) : Int) > IntKind.i64.max := by simp [IntKind.max, IntKind.signed, IntKind.bits]; omega
    simp only [Go.binOp, Op.stringOp]
    rw [if_neg (by simpa [ByteArray.size] using this), mk_append]
    rfl
  case eql => exact ⟨_, _, h, fun hv => ⟨fun _ _ => .bool, fun P w => by simp [Go.binOp, Op.stringOp]⟩⟩
  case neq => exact ⟨_, _, h, fun hv => ⟨fun _ _ => .bool, fun P w => by simp [Go.binOp, Op.stringOp]⟩⟩
  case lss => exact ⟨_, _, h, fun hv => ⟨fun _ _ => .bool, fun P w => by simp [Go.binOp, Op.stringOp]⟩⟩
  case leq => exact ⟨_, _, h, fun hv => ⟨fun _ _ => .bool, fun P w => by simp [Go.binOp, Op.stringOp]⟩⟩
  case gtr => exact ⟨_, _, h, fun hv => ⟨fun _ _ => .bool, fun P w => by simp [Go.binOp, Op.stringOp]⟩⟩
  case geq => exact ⟨_, _, h, fun hv => ⟨fun _ _ => .bool, fun P w => by simp [Go.binOp, Op.stringOp]⟩⟩

/-- as Res, where the program's types are asked -/
def ResP (P : Program) (g : Prop → Prop) (K : SV → Prop) (s : Sem Value) : Prop := ∃ sv v, K sv ∧ ((∀ p, g p → p) → (∀ r β, Rel r β sv v) ∧ ∀ w, s.run P w = .ok v w)
theorem Res.at {g} {K : SV → Prop} {s : Sem Value} (h : Res g K s) (P : Program) : ResP P g K s := by
  obtain ⟨sv, v, hk, hr⟩ := h
  exact ⟨sv, v, hk, fun hv => ⟨(hr hv).1, (hr hv).2 P⟩⟩

theorem run_underlying {P : Program} {t : TypeId} {d : TypeDesc} (h : P.underlying t = some d) (w : World) : (underlying t).run P w = .ok d w := by
  simp [underlying, h]

/-- a symbolic value that can be only one value, and says so by itself -/
theorem run_equal_bool {P : Program} {t : TypeId} (hu : P.underlying t = some .bool) (a b : Bool) (w : World) : (Op.equal t (.bool a) (.bool b)).run P w = .ok (a == b) w := by
  unfold Op.equal Op.maxDepth
  rw [show (10000 : Nat) = 9999 + 1 from rfl, Op.equalIn]
  simp [run_underlying hu]
theorem evBin_sound {P : Program} {op t x y g} {K : SV → Prop} (h : evBin P op t x y g K) :
    ∃ sv, K sv ∧ ((∀ p, g p → p) → ∀ r β vx vy, Rel r β x vx → Rel r β y vy → ∃ v, Rel r β sv v ∧ ∀ w, (Go.binOp op t vx vy).run P w = .ok v w) := by
  unfold evBin at h
  split at h
  · obtain ⟨sv, v, hk, hr⟩ := evInt_sound (t := t) h
    refine ⟨sv, hk, fun hv r β vx vy hx hy => ?_⟩
    cases hx; cases hy
    exact ⟨v, (hr hv).1 r β, (hr hv).2 P⟩
  · obtain ⟨sv, v, hk, hr⟩ := evStr_sound (t := t) h
    refine ⟨sv, hk, fun hv r β vx vy hx hy => ?_⟩
    cases hx; cases hy
    exact ⟨v, (hr hv).1 r β, (hr hv).2 P⟩
  · split at h
    · rename_i hu
      refine ⟨_, h, fun hv r β vx vy hx hy => ?_⟩
      cases hx; cases hy
      exact ⟨_, .bool, fun w => by
        show Sem.run P (do pure (Value.bool (← Op.equal t (.bool _) (.bool _)))) w = _
        rw [Sem.run_bind, run_equal_bool hu]; rfl⟩
    · rename_i hu
      refine ⟨_, h, fun hv r β vx vy hx hy => ?_⟩
      cases hx; cases hy
      exact ⟨_, .bool, fun w => by
        show Sem.run P (do pure (Value.bool (!(← Op.equal t (.bool _) (.bool _))))) w = _
        rw [Sem.run_bind, run_equal_bool hu]; rfl⟩
    · exact h.elim
  · exact h.elim

theorem evUn_sound {P : Program} {op x g} {K : SV → Prop} (h : evUn op x g K) :
    ∃ sv, K sv ∧ ((∀ p, g p → p) → ∀ r β vx, Rel r β x vx → ∃ v, Rel r β sv v ∧ ∀ w, (Op.unary op vx).run P w = .ok v w) := by
  unfold evUn at h
  split at h
  · refine ⟨_, h, fun hv r β vx hx => ?_⟩
    cases hx
    exact ⟨_, .bool, fun w => rfl⟩
  · obtain ⟨m, hk, he⟩ := wrapK_sound h
    refine ⟨_, hk, fun hv r β vx hx => ?_⟩
    cases hx
    exact ⟨_, .int, fun w => by simp only [Op.unary, Op.intArith]; rw [he hv]; rfl⟩
  · refine ⟨_, h, fun hv r β vx hx => ?_⟩
    cases hx
    exact ⟨_, .int, fun w => by simp only [Op.unary, Op.intBits]; rfl⟩
  · exact h.elim

theorem encode_short (n : Int) : (Utf8.encode n).data.toList.length ≤ 9223372036854775807 := by
  unfold Utf8.encode
  generalize (if Utf8.valid n then n.toNat else Utf8.runeError) = c
  dsimp only
  split
  · simp
  · split
    · simp
    · split <;> simp

theorem evConv_sound {P : Program} {src dst x g} {K : SV → Prop} (h : evConv P src dst x g K) :
    ∃ sv, K sv ∧ ((∀ p, g p → p) → ∀ r β vx, Rel r β x vx → ∃ v, Rel r β sv v ∧ ∀ w, (Go.convert src dst vx).run P w = .ok v w) := by
  unfold evConv at h
  split at h
  · rename_i ds k' k n hs hd
    cases hw : kWide k k' with
    | true =>
      rw [hw] at h
      refine ⟨_, h.2, fun hv r β vx hx => ?_⟩
      cases hx
      exact ⟨_, .int, fun w => by simp [Go.convert, run_underlying hs, run_underlying hd, Conv.intToInt, wrap_kIn (hv _ h.1).h]⟩
    | false =>
      rw [hw] at h
      refine ⟨_, h, fun hv r β vx hx => ?_⟩
      cases hx
      exact ⟨_, .int, fun w => by simp [Go.convert, run_underlying hs, run_underlying hd, Conv.intToInt]⟩
  · rename_i ds k n hs hd
    refine ⟨_, h, fun hv r β vx hx => ?_⟩
    cases hx
    exact ⟨_, .str (encode_short n), fun w => by simp [Go.convert, run_underlying hs, run_underlying hd, Conv.intToString]⟩
  · rename_i ds l hs hd
    refine ⟨_, h, fun hv r β vx hx => ?_⟩
    cases hx
    rename_i hl
    exact ⟨_, .str hl, fun w => by simp [Go.convert, run_underlying hs, run_underlying hd]⟩
  · exact h.elim

end Go.Vc

namespace Go.Vc
set_option autoImplicit false
set_option linter.unusedVariables false

theorem mk_get (l : List UInt8) (i : Nat) (h : i < l.length) : (⟨l.toArray⟩ : ByteArray)[i]? = some (l.getD i 0) := by
  rw [ByteArray.getElem?_lt' _ _ (by simpa [ByteArray.size] using h)]
  congr 1
  show l.toArray[i] = _
  simp [List.getD, List.getElem?_eq_getElem h]

theorem run_sizeOf {P : Program} {t : TypeId} {i : TypeInfo} (h : P.info? t = some i) (w : World) : (sizeOf t).run P w = .ok i.size w := by
  simp [sizeOf, typeInfo, h]
theorem len_eq (l : List SV) : len l = l.length := by
  induction l with
  | nil => rfl
  | cons x r ih => simp [len, ih]
theorem intsK_sound {k : IntKind} : ∀ {cs : List SV} {K : List Int → Prop}, intsK k cs K → ∃ ns, K ns ∧ cs = ns.map (SV.int k) := by
  intro cs
  induction cs with
  | nil => intro K h; exact ⟨[], h, rfl⟩
  | cons x r ih =>
    intro K h
    cases x <;> try exact h.elim
    rename_i k' n
    simp only [intsK] at h
    cases hk : kEq k k' with
    | false => rw [hk] at h; exact h.elim
    | true =>
      rw [hk] at h
      obtain rfl := kEq_of hk
      obtain ⟨ns, h1, h2⟩ := ih h
      exact ⟨n :: ns, h1, by rw [h2]; rfl⟩
theorem evIndex_sound {P : Program} {t x i g} {K : SV → Prop} (h : evIndex P t x i g K) :
    ∃ sv, K sv ∧ ((∀ p, g p → p) → ∀ r β vx vi, Rel r β x vx → Rel r β i vi → ∃ v, Rel r β sv v ∧ ∀ w, (Instr.index t vx vi).run P w = .ok v w) := by
  unfold evIndex at h
  split at h
  · rename_i l k i hu
    refine ⟨_, h.2, fun hv r β vx vi hx hi => ?_⟩
    have hb := (hv _ h.1).h
    cases hx; cases hi
    refine ⟨_, .int, fun w => ?_⟩
    obtain ⟨n, rfl⟩ := Int.eq_ofNat_of_zero_le hb.1
    have hl : n < l.length := by omega
    simp [Instr.index, asIntOf, run_underlying hu, mk_get l n hl]
  · rename_i n e cs k i hu
    split at h
    · rename_i ke hue
      cases hz : (szOk P e 1 && Nat.beq (len cs) n) with
      | false => rw [hz] at h; exact h.elim
      | true =>
        rw [hz] at h
        have h : g (Ob (0 ≤ i ∧ i < n)) ∧ intsK ke cs fun ns => K (.int ke (ns.getD i.toNat 0)) := h
        simp only [Bool.and_eq_true] at hz
        have hn := beq_of hz.2
        rw [len_eq] at hn
        obtain ⟨ns, hk, hcs⟩ := intsK_sound h.2
        refine ⟨_, hk, fun hv r β vx vi hx hi => ?_⟩
        have hb := (hv _ h.1).h
        cases hi
        cases hx with
        | agg hl hr =>
          rename_i vs
          obtain ⟨m, rfl⟩ := Int.eq_ofNat_of_zero_le hb.1
          have hm : m < n := by omega
          have hlt : m < ns.length := by have := congrArg List.length hcs; simp at this; omega
          have hvl : m < vs.length := by omega
          have hrel := hr m (.int ke ns[m]) vs[m] (by rw [hcs]; simp [hlt]) (List.getElem?_eq_getElem hvl)
          generalize hq : vs[m] = u at hrel
          cases hrel
          refine ⟨_, .int, fun w => ?_⟩
          obtain ⟨si, hsi, hs1⟩ : ∃ s, P.info? e = some s ∧ s.size = 1 := by
            have h1 := hz.1
            unfold szOk at h1
            cases hq : P.info? e with
            | none => rw [hq] at h1; cases h1
            | some s => rw [hq] at h1; exact ⟨s, rfl, beq_of h1⟩
          have hg : ns.getD m 0 = ns[m] := by simp [List.getD, List.getElem?_eq_getElem hlt]
          simp only [Instr.index, asIntOf, Sem.run_bind, Sem.run_pure, Result.andThen_ok, run_underlying hu]
          rw [if_pos ⟨by omega, by omega⟩]
          simp only [Sem.run_bind, run_sizeOf hsi, Result.andThen_ok, hs1]
          unfold part isAgg
          simp only [Sem.run_bind, run_underlying hue, Result.andThen_ok, Sem.run_pure]
          simp [hvl, hq, List.getElem?_eq_getElem hlt]
    · exact h.elim
  · exact h.elim

def OptEv (a : Act) : Option Operand → Option Int → Prop
  | none, none => True
  | some x, some i => ∃ k, a.eval x = .int k i
  | _, _ => False
theorem loK_sound {σ : Env} {ctx : Ctx} {x : Option Operand} {K : Option Int → Prop} (h : loK σ ctx x K) :
    ∃ y, K y ∧ ∀ p r β (a : Act) g, (∀ o, x = some o → Has p o) → Sm p r β σ a.tmps ctx g → OptEv a x y := by
  unfold loK at h
  split at h
  · exact ⟨none, h, fun _ _ _ _ _ _ _ => trivial⟩
  · obtain ⟨sv, hk, hr⟩ := opK_sound h
    cases sv <;> simp only at hk
    rename_i k i
    refine ⟨some i, hk, fun p r β a g hp sm => ?_⟩
    have := hr p r β a g (hp _ rfl) sm
    generalize hq : a.eval _ = v at this
    cases this
    exact ⟨k, hq⟩

theorem run_sliceBound {P : Program} {k : IntKind} {i : Int} {y : Nat} {code : BoundsCode} (h0 : 0 ≤ i) (h1 : i ≤ y) (w : World) :
    (Instr.sliceBound (.int k i) y code).run P w = .ok i.toNat w := by
  simp [Instr.sliceBound, asIntOf, h0, h1]

/-- the bounds that were asked are those of Go -/
theorem run_sliceBounds {P : Program} {s : Bool} {len cap : Nat} {lo hi : Option Value} {a b : Nat} (w : World)
    (hb : match hi with | none => b = len | some v => ∃ k i, v = Value.int k i ∧ 0 ≤ i ∧ i ≤ cap ∧ i.toNat = b)
    (ha : match lo with | none => a = 0 | some v => ∃ k i, v = Value.int k i ∧ 0 ≤ i ∧ i ≤ b ∧ i.toNat = a) :
    (Instr.sliceBounds s len cap lo hi none).run P w = .ok (a, b, cap) w := by
  unfold Instr.sliceBounds
  cases hi with
  | none =>
    cases lo with
    | none => simp at ha hb; subst ha; subst hb; simp
    | some v =>
      obtain ⟨k, i, rfl, h0, h1, rfl⟩ := ha
      simp at hb; subst hb
      simp [run_sliceBound h0 h1]
  | some v =>
    obtain ⟨k, i, rfl, h0, h1, rfl⟩ := hb
    cases lo with
    | none => simp at ha; subst ha; simp [run_sliceBound h0 h1]
    | some v =>
      obtain ⟨k', i', rfl, h0', h1', rfl⟩ := ha
      have h1'' : i' ≤ ((i.toNat : Nat) : Int) := h1'
      simp [run_sliceBound h0 h1, run_sliceBound h0' h1'']

theorem rows_drop_take {α : Type _} (l : List α) (a b i : Nat) (x : α) (h : ((l.take b).drop a)[i]? = some x) : l[a + i]? = some x := by
  rw [List.getElem?_drop, List.getElem?_take] at h
  split at h
  · exact h
  · cases h

theorem sub_rel {r : Mem} {β : Bind} {sz : Nat} {rows : List (List SV)} {a0 : Option Addr} {n cap a b : Nat} (h : Rel r β (.lits sz rows) (.slice a0 n cap)) (hab : a ≤ b) (hb : b ≤ n) :
    Rel r β (.lits sz ((rows.take b).drop a)) (.slice (if cap = a then a0 else a0.map (·.add (a * sz))) (b - a) (cap - a)) := by
  cases h with
  | litsE => 
    have : b - a = 0 := by omega
    rw [this]
    simp
    exact .litsE
  | lits hb' hn hcap hrow ho hc hr =>
    rename_i bl off c T fr
    by_cases h0 : a = b
    · subst h0
      have : (rows.take a).drop a = [] := by
        apply List.drop_eq_nil_of_le; simp; omega
      rw [this, Nat.sub_self]
      exact .litsE
    · have hc0 : ¬ cap = a := by omega
      rw [if_neg hc0]
      have hl : ((rows.take b).drop a).length = b - a := by simp; omega
      have ha : (some (⟨bl, off, none⟩ : Addr)).map (·.add (a * sz)) = some ⟨bl, off + a * sz, none⟩ := by
        simp only [Option.map, Addr.add]
        split
        · rename_i hz; rw [hz]; rfl
        · rfl
      rw [ha]
      have key := Rel.lits (r := r) (β := β) (sz := sz) (rows := (rows.take b).drop a) (b := bl) (off := off + a * sz) (cap := cap - a) (c := c) (T := T) (fr := fr) hb'
        (by rw [hl]; omega) (by rw [hl]; omega) (fun i row hi => hrow _ _ (rows_drop_take _ _ _ _ _ hi)) (fun i row j sv hi hj => ho _ _ _ _ (rows_drop_take _ _ _ _ _ hi) hj)
        (by
          rw [hl]
          have h1 : a * sz + (b - a) * sz = b * sz := by rw [← Nat.add_mul]; congr 1; omega
          have h2 : b * sz ≤ rows.length * sz := Nat.mul_le_mul_right sz hb
          omega)
        (fun i row j sv v hi hj hv => hr _ _ _ _ _ (rows_drop_take _ _ _ _ _ hi) hj (by
          rw [Nat.add_mul]; rw [show off + (a * sz + i * sz) + j = off + a * sz + i * sz + j by omega]; exact hv))
      rw [hl] at key
      exact key

theorem Rel.lits_slice {r β sz rows v} (h : Rel r β (.lits sz rows) v) : ∃ a cap, v = .slice a rows.length cap ∧ rows.length ≤ cap ∧ rows.length ≤ 9223372036854775807 := by
  cases h with
  | litsE => exact ⟨_, _, rfl, by simp, by simp⟩
  | lits hb hn hcap => exact ⟨_, _, rfl, hcap, hn⟩

theorem info_of_underlying {P : Program} {t : TypeId} {d : TypeDesc} (h : P.underlying t = some d) : ∃ i, P.info? t = some i := by
  unfold Program.underlying at h
  split at h
  · rename_i h'; exact ⟨_, h'⟩
  · rename_i h'; exact ⟨_, h'⟩
  · cases h

/-- the value of an optional bound -/
def evalO (a : Act) (x : Option Operand) : Option Value := x.map a.eval

theorem str_sub {l : List UInt8} {a b : Nat} (hab : a ≤ b) (hb : b ≤ l.length) : (ByteArray.mk l.toArray).extract a b = ByteArray.mk ((l.take b).drop a).toArray := by
  rw [ByteArray.extract_mk, List.drop_take]

theorem sizeT_run {P : Program} {e : TypeId} {i : TypeInfo} (h : P.info? e = some i) : sizeT P e = i.size := by simp [sizeT, h]

theorem szOk_spec {P : Program} {e : TypeId} {sz : Nat} (h : szOk P e sz = true) : sizeT P e = sz ∧ P.info? e ≠ none := by
  unfold szOk at h
  unfold sizeT
  split at h
  · rename_i i hi; rw [hi]; exact ⟨beq_of h, by simp⟩
  · cases h

abbrev OptIs (lo : Option Int) (v : Option Value) : Prop :=
  match lo, v with
  | none, none => True
  | some i, some v => ∃ k, v = Value.int k i
  | _, _ => False

theorem evSlice_core {r : Mem} {β : Bind} {P : Program} {t e : TypeId} {rows : List (List SV)} {vx : Value} {vlo vhi : Option Value} {a b : Nat} (hu : P.underlying t = some (.slice e))
    (hi : P.info? e ≠ none) (hx : Rel r β (.lits (sizeT P e) rows) vx)
    (hb : match vhi with | none => b = rows.length | some v => ∃ k i, v = Value.int k i ∧ 0 ≤ i ∧ i ≤ (rows.length : Nat) ∧ i.toNat = b)
    (ha : match vlo with | none => a = 0 | some v => ∃ k i, v = Value.int k i ∧ 0 ≤ i ∧ i ≤ b ∧ i.toNat = a) (hab : a ≤ b) (hbl : b ≤ rows.length) :
    ∃ v, Rel r β (.lits (sizeT P e) ((rows.take b).drop a)) v ∧ ∀ w, (Instr.sliceAt t vx vlo vhi none).run P w = .ok v w := by
  obtain ⟨a0, cap, rfl, hc, _⟩ := hx.lits_slice
  obtain ⟨i, hi⟩ := Option.ne_none_iff_exists'.1 hi
  refine ⟨_, sub_rel hx hab hbl, fun w => ?_⟩
  have hsb := run_sliceBounds (P := P) (s := true) (len := rows.length) (cap := cap) (lo := vlo) (hi := vhi) (a := a) (b := b) w
    (by cases vhi with
        | none => exact hb
        | some v => obtain ⟨k, i, h1, h2, h3, h4⟩ := hb; exact ⟨k, i, h1, h2, by omega, h4⟩) ha
  simp [Instr.sliceAt, Instr.slice, run_underlying hu, hsb, run_sizeOf hi, sizeT_run hi]

theorem evSlice_sound {P : Program} {t x lo hi g} {K : SV → Prop} (h : evSlice P t x lo hi g K) :
    ∃ sv, K sv ∧ ((∀ p, g p → p) → ∀ r β vx vlo vhi, Rel r β x vx → OptIs lo vlo → OptIs hi vhi → ∃ v, Rel r β sv v ∧ ∀ w, (Instr.sliceAt t vx vlo vhi none).run P w = .ok v w) := by
  unfold evSlice at h
  split at h
  · rename_i l hu
    have key : ∀ (vlo vhi : Option Value) (a b : Nat) w, (l.length ≤ 9223372036854775807) →
        (match vhi with | none => b = l.length | some v => ∃ k i, v = Value.int k i ∧ 0 ≤ i ∧ i ≤ l.length ∧ i.toNat = b) →
        (match vlo with | none => a = 0 | some v => ∃ k i, v = Value.int k i ∧ 0 ≤ i ∧ i ≤ b ∧ i.toNat = a) → a ≤ b → b ≤ l.length →
        (Instr.sliceAt t (.string ⟨l.toArray⟩) vlo vhi none).run P w = .ok (.string ⟨((l.take b).drop a).toArray⟩) w := by
      intro vlo vhi a b w hl hb ha hab hbl
      have hsb := run_sliceBounds (P := P) (s := false) (len := l.length) (cap := l.length) (lo := vlo) (hi := vhi) (a := a) (b := b) w hb ha
      have hz : (ByteArray.mk l.toArray).size = l.length := by simp [ByteArray.size]
      simp [Instr.sliceAt, Instr.slice, run_underlying hu, hz, hsb, str_sub hab hbl]
    split at h
    · refine ⟨_, h, fun hv r β vx vlo vhi hx h1 h2 => ?_⟩
      cases hx; rename_i hl
      cases vlo <;> cases vhi <;> simp only [OptIs] at h1 h2
      exact ⟨_, .str hl, fun w => by have := key none none 0 l.length w hl rfl rfl (by omega) (by omega); simpa using this⟩
    · rename_i ia
      refine ⟨_, h.2, fun hv r β vx vlo vhi hx h1 h2 => ?_⟩
      have hb := (hv _ h.1).h
      cases hx; rename_i hl
      cases vlo <;> cases vhi <;> simp only [OptIs] at h1 h2
      obtain ⟨k, rfl⟩ := h1
      refine ⟨_, .str (by simp; omega), fun w => ?_⟩
      have := key (some (.int k ia)) none ia.toNat l.length w hl rfl ⟨k, _, rfl, hb.1, hb.2, rfl⟩ (by omega) (by omega)
      simpa using this
    · rename_i ib
      refine ⟨_, h.2, fun hv r β vx vlo vhi hx h1 h2 => ?_⟩
      have hb := (hv _ h.1).h
      cases hx; rename_i hl
      cases vlo <;> cases vhi <;> simp only [OptIs] at h1 h2
      obtain ⟨k, rfl⟩ := h2
      refine ⟨_, .str (by simp; omega), fun w => ?_⟩
      have := key none (some (.int k ib)) 0 ib.toNat w hl ⟨k, _, rfl, hb.1, hb.2, rfl⟩ rfl (by omega) (by omega)
      simpa using this
    · rename_i ia ib
      refine ⟨_, h.2, fun hv r β vx vlo vhi hx h1 h2 => ?_⟩
      have hb := (hv _ h.1).h
      cases hx; rename_i hl
      cases vlo <;> cases vhi <;> simp only [OptIs] at h1 h2
      obtain ⟨k, rfl⟩ := h1
      obtain ⟨k', rfl⟩ := h2
      refine ⟨_, .str (by simp; omega), fun w => ?_⟩
      exact key (some (.int k ia)) (some (.int k' ib)) ia.toNat ib.toNat w hl ⟨k', _, rfl, by omega, hb.2.2, rfl⟩ ⟨k, _, rfl, hb.1, by omega, rfl⟩ (by omega) (by omega)
  · rename_i e τ l hu
    cases hz : szOk P e τ.size with
    | false => rw [hz] at h; exact h.elim
    | true =>
      rw [hz] at h
      obtain ⟨hts, hi⟩ := szOk_spec hz
      simp only [cond_true] at h
      have core := fun (r : Mem) (β : Bind) vx (hx : Rel r β (.rd τ l) vx) vlo vhi a b =>
        evSlice_core (r := r) (β := β) (rows := l.map τ.enc) (vx := vx) (vlo := vlo) (vhi := vhi) (a := a) (b := b) hu hi (by rw [hts]; cases hx; assumption)
      simp only [List.length_map, hts] at core
      split at h
      · refine ⟨_, h, fun hv r β vx vlo vhi hx h1 h2 => ?_⟩
        cases vlo <;> cases vhi <;> simp only [OptIs] at h1 h2
        obtain ⟨v, hr, hw⟩ := core r β vx hx none none 0 l.length rfl rfl (by omega) (by omega)
        exact ⟨v, .rd (by simpa [List.take_of_length_le] using hr), hw⟩
      · rename_i ia
        refine ⟨_, h.2, fun hv r β vx vlo vhi hx h1 h2 => ?_⟩
        have hb := (hv _ h.1).h
        cases vlo <;> cases vhi <;> simp only [OptIs] at h1 h2
        obtain ⟨k, rfl⟩ := h1
        obtain ⟨v, hr, hw⟩ := core r β vx hx (some (.int k ia)) none ia.toNat l.length rfl ⟨k, _, rfl, hb.1, hb.2, rfl⟩ (by omega) (by omega)
        exact ⟨v, .rd (by simpa [List.take_of_length_le, List.map_drop] using hr), hw⟩
      · rename_i ib
        refine ⟨_, h.2, fun hv r β vx vlo vhi hx h1 h2 => ?_⟩
        have hb := (hv _ h.1).h
        cases vlo <;> cases vhi <;> simp only [OptIs] at h1 h2
        obtain ⟨k, rfl⟩ := h2
        obtain ⟨v, hr, hw⟩ := core r β vx hx none (some (.int k ib)) 0 ib.toNat ⟨k, _, rfl, hb.1, hb.2, rfl⟩ rfl (by omega) (by omega)
        exact ⟨v, .rd (by simpa [List.map_take] using hr), hw⟩
      · rename_i ia ib
        refine ⟨_, h.2, fun hv r β vx vlo vhi hx h1 h2 => ?_⟩
        have hb := (hv _ h.1).h
        cases vlo <;> cases vhi <;> simp only [OptIs] at h1 h2
        obtain ⟨k, rfl⟩ := h1
        obtain ⟨k', rfl⟩ := h2
        obtain ⟨v, hr, hw⟩ := core r β vx hx (some (.int k ia)) (some (.int k' ib)) ia.toNat ib.toNat ⟨k', _, rfl, by omega, hb.2.2, rfl⟩ ⟨k, _, rfl, hb.1, by omega, rfl⟩ (by omega) (by omega)
        exact ⟨v, .rd (by simpa [List.map_take, List.map_drop] using hr), hw⟩
  · exact h.elim

end Go.Vc

namespace Go.Vc
set_option autoImplicit false
set_option linter.unusedVariables false

theorem Rel.oneCell {r β sv v} (h : Rel r β sv v) (ho : sv.one = true) : v.oneCell' = true := by
  induction h with
  | rd _ ih => exact ih rfl
  | v => exact ho
  | own h => exact h
  | agg => cases ho
  | tup => cases ho
  | und => cases ho
  | _ => rfl

theorem MemSat.rows {r β Φ w id} {ch : Chunk} (m : MemSat r β Φ w) (h : Phi.get Φ id = some ch) : ch.Sat r β w (β id) := m.chs _ _ h

theorem MemSat.rowsR {r β Φ w id} {τ : Ty} {l : List τ.T} (m : MemSat r β Φ w) (h : Phi.row Φ id = some (.own τ l)) : (Chunk.own τ l).Sat r β w (β id) := by
  unfold Phi.row at h
  split at h
  · rename_i hg
    cases h
    have := m.chs _ _ hg
    cases this with
    | ro h => exact .own h
  · exact m.chs _ _ h
theorem row_blk {Φ : Phi} {id : Nat} {τ : Ty} {l : List τ.T} (h : Phi.row Φ id = some (.own τ l)) : ∃ ch, Phi.get Φ id = some ch ∧ ∀ x, ch.blk x = (Chunk.own τ l).blk x := by
  unfold Phi.row at h
  split at h
  · rename_i τ' l' hg
    cases h
    refine ⟨_, hg, fun x => ?_⟩
    cases x <;> first | rfl | (rename_i a _ _; cases a <;> rfl)
  · exact ⟨_, h, fun _ => rfl⟩
theorem RowsAt.slice {r w x bt sz rows} (h : RowsAt r w x bt sz rows) : ∃ a cap, x = .slice a rows.length cap ∧ rows.length ≤ cap ∧ rows.length ≤ 9223372036854775807 := by
  rcases h with ⟨a, rfl, rfl⟩ | ⟨b, off, cap, c, T, fr, rfl, _, _, _, h1, h2, _⟩
  · exact ⟨a, 0, rfl, by simp, by simp⟩
  · exact ⟨_, _, rfl, h2, Nat.le_trans h2 h1⟩

theorem run_len_slice {P : Program} {t e : TypeId} (hu : P.underlying t = some (.slice e)) (a : Option Addr) (n cap : Nat) (ty : TypeId) (w : World) :
    (Builtin.len_ #[t] ty #[.slice a n cap]).run P w = .ok (.int .i64 n) w := by
  simp [Builtin.len_, run_underlying hu, goInt]

theorem lenK_sound {ung : Bool} {n : Nat} {K : SV → Prop} (h : lenK ung n K) (hp : ung = true → n ≤ 9223372036854775807) : K (.int .i64 n) := by
  cases ung with
  | true => exact h (hp rfl)
  | false => exact h

theorem evLen_sound {P : Program} {Φ : Phi} {t x ung} {K : SV → Prop} (h : evLen P Φ t x ung K) (hp : ung = true → ∃ r β vx w, Rel r β x vx ∧ MemSat r β Φ w) :
    ∃ sv, K sv ∧ ∀ r β vx, Rel r β x vx → ∃ v, Rel r β sv v ∧ ∀ w ty, MemSat r β Φ w → (Builtin.len_ #[t] ty #[vx]).run P w = .ok v w := by
  unfold evLen at h
  split at h
  · rename_i l hu
    have h := lenK_sound h (fun hq => by obtain ⟨r, β, vx, w, hx, _⟩ := hp hq; cases hx; assumption)
    refine ⟨_, h, fun r β vx hx => ?_⟩
    cases hx
    have hz : (ByteArray.mk l.toArray).size = l.length := by simp [ByteArray.size]
    exact ⟨_, .int, fun w ty _ => by
      simp only [Builtin.len_, List.getElem?_toArray, List.getElem?_cons_zero, Sem.run_bind, run_underlying hu, Result.andThen_ok, Sem.run_pure, goInt, hz]⟩
  · rename_i e τ l hu
    have h := lenK_sound h (fun hq => by
      obtain ⟨r, β, vx, w, hx, _⟩ := hp hq
      cases hx with
      | rd hx => obtain ⟨_, _, _, _, h⟩ := hx.lits_slice; simpa using h)
    refine ⟨_, h, fun r β vx hx => ?_⟩
    cases hx with
    | rd hx =>
      obtain ⟨a, cap, rfl, _⟩ := hx.lits_slice
      exact ⟨_, .int, fun w ty _ => by rw [run_len_slice hu]; simp⟩
  · rename_i e sz rows hu
    have h := lenK_sound h (fun hq => by
      obtain ⟨r, β, vx, w, hx, _⟩ := hp hq
      obtain ⟨_, _, _, _, h⟩ := hx.lits_slice; exact h)
    refine ⟨_, h, fun r β vx hx => ?_⟩
    obtain ⟨a, cap, rfl, _⟩ := hx.lits_slice
    exact ⟨_, .int, fun w ty _ => by rw [run_len_slice hu]⟩
  · rename_i e hu
    refine ⟨_, h, fun r β vx hx => ?_⟩
    cases hx
    exact ⟨_, .int, fun w ty _ => by rw [run_len_slice hu]; rfl⟩
  · rename_i e id hu
    split at h
    · rename_i τ l hg
      have h := lenK_sound h (fun hq => by
        obtain ⟨r, β, vx, w, hx, m⟩ := hp hq
        have hs := m.rowsR hg
        cases hs with
        | own hs => obtain ⟨_, _, _, _, h⟩ := hs.slice; simpa using h)
      refine ⟨_, h, fun r β vx hx => ?_⟩
      cases hx
      refine ⟨.int .i64 l.length, .int, fun w ty m => ?_⟩
      have hs := m.rowsR hg
      cases hs with
      | own hs => obtain ⟨a, cap, he, _⟩ := hs.slice; rw [he, run_len_slice hu]; simp
    · exact h.elim
  · exact h.elim

theorem minmaxK_sound {mx : Bool} {xs : List SV} : ∀ {x : SV} {K : SV → Prop}, minmaxK mx x xs K →
    ∃ sv, K sv ∧ ∀ r β vx (vs : List Value), Rel r β x vx → RelL r β xs vs → ∃ v, Rel r β sv v ∧ ∀ (P : Program) w, (vs.foldlM (if mx then Builtin.max2 else Builtin.min2) vx).run P w = .ok v w := by
  induction xs with
  | nil =>
    intro x K h
    cases x <;> simp only [minmaxK] at h <;> (refine ⟨_, h, fun r β vx vs hx hl => ?_⟩; obtain ⟨h1, _⟩ := hl; obtain rfl : vs = [] := List.length_eq_zero_iff.1 (by simpa using h1); exact ⟨_, hx, fun P w => rfl⟩)
  | cons y ys ih =>
    intro x K h
    cases x <;> cases y <;> simp only [minmaxK] at h
    rename_i k a k' b
    obtain ⟨sv, hk, hr⟩ := ih h
    refine ⟨sv, hk, fun r β vx vs hx hl => ?_⟩
    cases hx
    obtain ⟨h1, h2⟩ := hl
    cases vs with
    | nil => simp at h1
    | cons v vs =>
      have hv := h2 0 _ v rfl rfl
      cases hv
      obtain ⟨u, hu, hw⟩ := hr r β (.int k (bif mx then max a b else min a b)) vs .int ⟨by simpa using h1, fun i sv v q1 q2 => h2 (i + 1) sv v (by simpa using q1) (by simpa using q2)⟩
      refine ⟨u, hu, fun P w => ?_⟩
      have hm : ((if mx = true then Builtin.max2 else Builtin.min2) (.int k a) (.int k' b)).run P w = .ok (.int k (bif mx then max a b else min a b)) w := by
        cases mx
        · simp only [Builtin.min2, cond_false, Bool.false_eq_true, if_false, Sem.run_pure]
          congr 2
          omega
        · simp only [Builtin.max2, cond_true, if_true, Sem.run_pure]
          congr 2
          omega
      simp only [List.foldlM_cons, Sem.run_bind, hm, Result.andThen_ok]
      exact hw P w

theorem evBuiltin_sound {P : Program} {Φ : Phi} {b ts xs ung} {K : SV → Prop} (h : evBuiltin P Φ b ts xs ung K) (hp : ung = true → ∃ r β vs w, RelL r β xs vs ∧ MemSat r β Φ w) :
    ∃ sv, K sv ∧ ∀ r β vs, RelL r β xs vs → ∃ v, Rel r β sv v ∧ ∀ w ty cs, MemSat r β Φ w → (Go.builtin b ts.toArray ty cs vs.toArray).run P w = .ok (.value v) w := by
  have single : ∀ {x : SV} {r β vs}, RelL r β [x] vs → ∃ v, vs = [v] ∧ Rel r β x v := by
    intro x r β vs ⟨h1, h2⟩
    match vs, h1 with
    | [v], _ => exact ⟨v, rfl, h2 0 x v rfl rfl⟩
  have head : ∀ {x : SV} {l r β vs}, RelL r β (x :: l) vs → ∃ v us, vs = v :: us ∧ Rel r β x v ∧ RelL r β l us := by
    intro x l r β vs ⟨h1, h2⟩
    match vs, h1 with
    | v :: us, h1 => exact ⟨v, us, rfl, h2 0 x v rfl rfl, by simpa using h1, fun i sv v q1 q2 => h2 (i + 1) sv v (by simpa using q1) (by simpa using q2)⟩
  unfold evBuiltin at h
  split at h
  · rename_i t ts x
    obtain ⟨sv, hk, hr⟩ := evLen_sound h (fun hq => by
      obtain ⟨r, β, vs, w, h1, h2⟩ := hp hq
      obtain ⟨v, rfl, hv⟩ := single h1
      exact ⟨r, β, v, w, hv, h2⟩)
    refine ⟨sv, hk, fun r β vs hl => ?_⟩
    obtain ⟨v, rfl, hv⟩ := single hl
    obtain ⟨u, hu, hw⟩ := hr r β v hv
    refine ⟨u, hu, fun w ty cs m => ?_⟩
    have := hw w ty m
    have he : ∀ tt, Builtin.len_ tt ty [v].toArray = Builtin.len_ tt ty #[v] := fun _ => rfl
    have hl : Builtin.len_ (t :: ts).toArray ty #[v] = Builtin.len_ #[t] ty #[v] := by simp [Builtin.len_]
    show Sem.run P (do pure (Next.value (← Builtin.len_ (t :: ts).toArray ty [v].toArray))) w = _
    rw [he, hl, Sem.run_bind, this]; rfl
  · rename_i x l
    obtain ⟨sv, hk, hr⟩ := minmaxK_sound h
    refine ⟨sv, hk, fun r β vs hl => ?_⟩
    obtain ⟨v, us, rfl, hv, hus⟩ := head hl
    obtain ⟨u, hu, hw⟩ := hr r β v us hv hus
    refine ⟨u, hu, fun w ty cs m => ?_⟩
    show Sem.run P (do pure (Next.value (← Builtin.min_ _ ty (v :: us).toArray))) w = _
    rw [Sem.run_bind, show Builtin.min_ ts.toArray ty (v :: us).toArray = us.foldlM Builtin.min2 v by simp [Builtin.min_]]
    have := hw P w
    simp only [Bool.false_eq_true, if_false] at this
    rw [this]; rfl
  · rename_i x l
    obtain ⟨sv, hk, hr⟩ := minmaxK_sound h
    refine ⟨sv, hk, fun r β vs hl => ?_⟩
    obtain ⟨v, us, rfl, hv, hus⟩ := head hl
    obtain ⟨u, hu, hw⟩ := hr r β v us hv hus
    refine ⟨u, hu, fun w ty cs m => ?_⟩
    show Sem.run P (do pure (Next.value (← Builtin.max_ _ ty (v :: us).toArray))) w = _
    rw [Sem.run_bind, show Builtin.max_ ts.toArray ty (v :: us).toArray = us.foldlM Builtin.max2 v by simp [Builtin.max_]]
    have := hw P w
    simp only [if_true] at this
    rw [this]; rfl
  · exact h.elim

theorem subK_sound {l : List SV} : ∀ {off n : Nat} {K : List SV → Prop}, subK l off n K → K ((l.drop off).take n) ∧ off + n ≤ l.length := by
  induction l with
  | nil =>
    intro off n K h
    cases off <;> cases n <;> simp only [subK] at h
    exact ⟨by simpa using h, by simp⟩
  | cons x r ih =>
    intro off n K h
    cases off with
    | zero =>
      cases n with
      | zero => simp only [subK] at h; exact ⟨by simpa using h, by simp⟩
      | succ n => simp only [subK] at h; obtain ⟨h1, h2⟩ := ih h; exact ⟨by simpa using h1, by simp at h2 ⊢; omega⟩
    | succ o => simp only [subK] at h; obtain ⟨h1, h2⟩ := ih h; exact ⟨by simpa using h1, by simp at h2 ⊢; omega⟩

theorem run_isAgg {P : Program} {t : TypeId} {d : TypeDesc} (h : P.underlying t = some d) (w : World) : (isAgg t).run P w = .ok (isAggD d) w := by
  cases d <;> simp [isAgg, run_underlying h, isAggD]

theorem RelL.part {r β svs vs} (h : RelL r β svs vs) (off n : Nat) : RelL r β ((svs.drop off).take n) ((vs.drop off).take n) := by
  obtain ⟨h1, h2⟩ := h
  refine ⟨by simp [h1], fun i sv v q1 q2 => ?_⟩
  rw [List.getElem?_take] at q1 q2
  split at q1
  · rename_i hi
    rw [if_pos hi] at q2
    rw [List.getElem?_drop] at q1 q2
    exact h2 _ _ _ q1 q2
  · cases q1

/-- a part of a symbolic row, as a value and as a load -/
theorem partK_sound {P : Program} {t : TypeId} {cs : List SV} {off : Nat} {K : SV → Prop} (h : partK P t cs off K) :
    ∃ sv, K sv ∧ ∀ r β vs, RelL r β cs vs → ∃ v, Rel r β sv v ∧ (∀ w, (part t vs.toArray off).run P w = .ok v w) ∧
      (∀ (w : World) b base, (∀ (j : Nat) u, vs[j]? = some u → w.cell? ⟨b, base + j, none⟩ = some u) → (loadVar t ⟨b, base + off, none⟩).run P w = .ok v w) := by
  unfold partK at h
  split at h
  · exact h.elim
  · rename_i d hu
    cases ha : isAggD d with
    | true =>
      rw [ha] at h
      obtain ⟨hk, hlen⟩ := subK_sound h
      refine ⟨_, hk, fun r β vs hl => ?_⟩
      have hp := hl.part off (sizeT P t)
      refine ⟨.agg ((vs.drop off).take (sizeT P t)).toArray, .agg hp.1 hp.2, fun w => ?_, fun w b base hc => ?_⟩
      · obtain ⟨i, hi⟩ := info_of_underlying hu
        simp only [part, Sem.run_bind, run_isAgg hu, ha, Result.andThen_ok, if_true, run_sizeOf hi, sizeT_run hi, Sem.run_pure, List.extract_toArray]
        simp [List.extract]
      · obtain ⟨i, hi⟩ := info_of_underlying hu
        have hn : ((vs.drop off).take (sizeT P t)).length = i.size := by
          rw [sizeT_run hi] at *
          have := hl.1
          simp; omega
        have hcells := run_loadCells_list (P := P) w ⟨b, base + off, none⟩ ((vs.drop off).take (sizeT P t)) (fun j u hj => by
          rw [List.getElem?_take] at hj
          split at hj
          · rw [List.getElem?_drop] at hj
            have := hc _ _ hj
            have e : (⟨b, base + off, none⟩ : Addr).add j = ⟨b, base + (off + j), none⟩ := by
              simp only [Addr.add]
              split
              · rename_i h0; subst h0; rfl
              · simp [Nat.add_assoc]
            rw [e]; exact this
          · cases hj)
        rw [hn] at hcells
        simp only [loadVar, Sem.run_bind, run_isAgg hu, ha, Result.andThen_ok, if_true, run_sizeOf hi, hcells, Sem.run_pure]
    | false =>
      rw [ha] at h
      simp only [cond_false] at h
      split at h
      · rename_i sv hn
        rw [nth_eq] at hn
        refine ⟨sv, h, fun r β vs hl => ?_⟩
        obtain ⟨h1, h2⟩ := hl
        have hlt : off < vs.length := by
          have : off < cs.length := by
            rcases Nat.lt_or_ge off cs.length with h | h
            · exact h
            · simp [List.getElem?_eq_none h] at hn
          omega
        have hv : vs[off]? = some vs[off] := List.getElem?_eq_getElem hlt
        refine ⟨vs[off], h2 _ _ _ hn hv, fun w => ?_, fun w b base hc => ?_⟩
        · simp [part, run_isAgg hu, ha, hlt]
        · have hc' := hc off _ hv
          simp only [loadVar, Sem.run_bind, run_isAgg hu, ha, Result.andThen_ok, Bool.false_eq_true, if_false]
          rw [run_load, hc']
      · exact h.elim

end Go.Vc

namespace Go.Vc
set_option autoImplicit false
set_option linter.unusedVariables false

theorem Rel.agg_inv {r β l v} (h : Rel r β (.agg l) v) : ∃ cs : List Value, v = .agg cs.toArray ∧ RelL r β l cs := by
  cases h with
  | agg hl h => exact ⟨_, rfl, hl, h⟩

theorem evField_sound {P : Program} {t x f} {K : SV → Prop} (h : evField P t x f K) :
    ∃ sv, K sv ∧ ∀ r β vx, Rel r β x vx → ∃ v, Rel r β sv v ∧ ∀ w, (Instr.field t vx f).run P w = .ok v w := by
  unfold evField at h
  split at h
  · rename_i fs cs hu
    split at h
    · rename_i fd hn
      obtain ⟨sv, hk, hr⟩ := partK_sound h
      refine ⟨sv, hk, fun r β vx hx => ?_⟩
      obtain ⟨vs, rfl, hl⟩ := hx.agg_inv
      obtain ⟨v, hv, hw, _⟩ := hr r β vs hl
      refine ⟨v, hv, fun w => ?_⟩
      rw [nth_eq] at hn
      have hn' : (⟨fs⟩ : Array Field)[f]? = some fd := by simpa using hn
      simp only [Instr.field, Sem.run_bind, run_underlying hu, Result.andThen_ok, hn', asAgg, Sem.run_pure, hw]
    · exact h.elim
  · exact h.elim

theorem pureK_sound {sv : SV} {K : SV → Prop} (h : pureK sv K) : K sv ∧ sv.okIds (fun _ => false) = true := by
  unfold pureK at h
  cases ho : sv.okIds (fun _ => false) with
  | true => rw [ho] at h; exact ⟨h, rfl⟩
  | false => rw [ho] at h; exact h.elim

theorem Rel.pure {r β sv v} (h : Rel r β sv v) (ho : sv.okIds (fun _ => false) = true) (β' : Bind) : Rel r β' sv v :=
  h.bind (p := fun _ => false) (by intro _ h; cases h) ho

theorem cell_of_block {w : World} {b : Nat} {c : Array Value} {T fr} (h : w.heap[b]? = some (.cells c T fr)) (off : Nat) : w.cell? ⟨b, off, none⟩ = c[off]? := by
  simp [World.cell?, h]

/-- a row of a readable slice, as values -/
theorem row_vals {α : Type} {r : Mem} {sz : Nat} {enc : α → List SV} {d : α} {l : List α} {i : Nat} (hi : i < l.length) {c : Array Value} {off : Nat}
    (hrow : ∀ (i : Nat) (row : List SV), (l.map enc)[i]? = some row → row.length = sz)
    (hc : off + l.length * sz ≤ c.size)
    (hr : ∀ (i : Nat) (row : List SV) (j : Nat) (sv : SV) (v : Value), (l.map enc)[i]? = some row → row[j]? = some sv → c[off + i * sz + j]? = some v → Rel r β0 sv v) :
    ∃ vs : List Value, RelL r β0 (enc (l.getD i d)) vs ∧ ∀ (j : Nat) u, vs[j]? = some u → c[off + i * sz + j]? = some u := by
  have hg : l.getD i d = l[i] := by simp [List.getD, List.getElem?_eq_getElem hi]
  have hm : (l.map enc)[i]? = some (enc (l.getD i d)) := by simp [List.getElem?_eq_getElem hi]
  have hlen := hrow _ _ hm
  have hb : ∀ j, j < sz → off + i * sz + j < c.size := by
    intro j hj
    have : (i + 1) * sz ≤ l.length * sz := Nat.mul_le_mul_right sz hi
    rw [Nat.add_mul] at this
    omega
  refine ⟨(List.range sz).map fun j => c.getD (off + i * sz + j) undef, ⟨by rw [hlen]; simp, fun j sv v q1 q2 => ?_⟩, fun j u q => ?_⟩
  · simp only [List.getElem?_map] at q2
    by_cases hj : j < sz
    · simp only [List.getElem?_range hj, Option.map_some, Option.some.injEq] at q2
      refine hr _ _ _ _ _ hm q1 ?_
      rw [← q2, Array.getD_eq_getD_getElem?, Array.getElem?_eq_getElem (hb j hj)]
      rfl
    · rw [List.getElem?_eq_none (by simpa using Nat.le_of_not_lt hj)] at q2
      cases q2
  · simp only [List.getElem?_map] at q
    by_cases hj : j < sz
    · simp only [List.getElem?_range hj, Option.map_some, Option.some.injEq] at q
      rw [← q, Array.getD_eq_getD_getElem?, Array.getElem?_eq_getElem (hb j hj)]
      rfl
    · rw [List.getElem?_eq_none (by simpa using Nat.le_of_not_lt hj)] at q
      cases q

theorem lits_bound {r β sz rows b off n cap} (h : Rel r β (.lits sz rows) (.slice (some ⟨b, off, none⟩) n cap)) (hn : 0 < rows.length) :
    ∃ c T fr, r b = some (.cells c T fr) ∧ n = rows.length ∧ off + rows.length * sz ≤ c.size ∧ (∀ (i : Nat) (row : List SV), rows[i]? = some row → row.length = sz) ∧
      (∀ (i : Nat) (row : List SV) (j : Nat) (sv : SV) (v : Value), rows[i]? = some row → row[j]? = some sv → c[off + i * sz + j]? = some v → Rel r β0 sv v) := by
  cases h with
  | litsE => simp at hn
  | lits hb h1 hcap hrow ho hc hr =>
    rename_i c T fr
    exact ⟨c, T, fr, hb, rfl, hc, hrow, hr⟩

theorem nbeq_of {a b : Nat} (h : a ≠ b) : Nat.beq a b = false := by
  cases hb : Nat.beq a b with
  | true => exact (h (beq_of hb)).elim
  | false => rfl

/-- A world that differs from w0 in nothing that is known. -/
structure Near (r : Mem) (β : Bind) (Φ : Phi) (w0 w : World) : Prop where
  mem : MemSat r β Φ w
  same : ∀ id ch b, Φ.get id = some ch → ch.blk (β id) = some b → w.heap[b]? = w0.heap[b]?
  hid : Hid r β Φ w0 r β Φ w

theorem add_mk (b off n : Nat) : (⟨b, off, none⟩ : Addr).add n = ⟨b, off + n, none⟩ := by
  simp only [Addr.add]
  split
  · rename_i h; subst h; rfl
  · rfl

theorem toList_rel {r : Mem} {β : Bind} {cells : List SV} {c : Array Value} (hl : c.size = cells.length) (h : ∀ (i : Nat) (sv : SV) (v : Value), cells[i]? = some sv → c[i]? = some v → Rel r β sv v) : RelL r β cells c.toList :=
  ⟨by simpa using hl, fun i sv v q1 q2 => h i sv v q1 (by simpa using q2)⟩

theorem run_loadAt {P : Program} {t : TypeId} {a : Addr} {w : World} {v : Value} (h : (loadVar t a).run P w = .ok v w) : (Instr.loadAt t (.pointer (some a))).run P w = .ok v w := by
  simp only [Instr.loadAt, Sem.run_bind, Instr.sureAddr, Sem.run_pure, Result.andThen_ok, h]

theorem evLoad_sound {P : Program} {Φ : Phi} {t x g} {K : SV → Prop} (h : evLoad P Φ t x g K) :
    ∃ sv, K sv ∧ ((∀ p, g p → p) → ∀ r β vx, Rel r β x vx → ∀ w0, MemSat r β Φ w0 → ∃ v, Rel r β sv v ∧ ∀ w, Near r β Φ w0 w → (Instr.loadAt t vx).run P w = .ok v w) := by
  unfold evLoad at h
  split at h
  · rename_i id off
    split at h
    · rename_i cs hg
      obtain ⟨sv, hk, hr⟩ := partK_sound h
      refine ⟨sv, hk, fun hv r β vx hx w0 m => ?_⟩
      cases hx with
      | loc hβ =>
        rename_i b
        have hs := m.rows hg
        cases hs with
        | box hxb hw hl hc hT =>
          rename_i b' c T
          rw [hβ] at hxb
          obtain rfl : b = b' := by simpa using hxb
          obtain ⟨v, hrel, _, hload⟩ := hr r β c.toList (toList_rel hl hc)
          refine ⟨v, hrel, fun w hn => run_loadAt ?_⟩
          have hw' : w.heap[b]? = some (.cells c T (0, 0)) := by rw [hn.same id _ b hg (by rw [hβ]; rfl)]; exact hw
          have := hload w b 0 (fun j u hj => by rw [cell_of_block hw']; simpa using hj)
          simpa using this
    · exact h.elim
  · rename_i τ l i off
    obtain ⟨sv, hk, hr⟩ := partK_sound h
    obtain ⟨hk, ho⟩ := pureK_sound hk
    refine ⟨sv, hk, fun hv r β vx hx w0 m => ?_⟩
    cases hx with
    | el hx hi =>
      rename_i b off0 n cap
      obtain ⟨c, T, fr, hb, _, hc, hrow, hrr⟩ := lits_bound hx (by simpa using Nat.lt_of_le_of_lt (Nat.zero_le _) hi)
      obtain ⟨vs, hvs, hcell⟩ := row_vals (d := τ.dflt) hi hrow (by simpa using hc) hrr
      obtain ⟨v, hrel, _, hload⟩ := hr r β0 vs hvs
      refine ⟨v, hrel.pure ho β, fun w hn => run_loadAt ?_⟩
      exact hload w b (off0 + i * τ.size) (fun j u hj => by rw [cell_of_block (hn.mem.vis _ _ hb)]; exact hcell _ _ hj)
  · rename_i id sz0 i off
    split at h
    · rename_i τ l hg
      cases hz0 : Nat.beq sz0 τ.size with
      | false => rw [hz0] at h; exact h.elim
      | true =>
      rw [hz0] at h
      obtain rfl := beq_of hz0
      obtain ⟨sv, hk, hr⟩ := partK_sound h.2
      obtain ⟨hk, ho⟩ := pureK_sound hk
      refine ⟨sv, hk, fun hv r β vx hx w0 m => ?_⟩
      have hi := (hv _ h.1).h
      cases hx with
      | oel hβ =>
        rename_i b off0 n cap
        have hs := m.rowsR hg
        cases hs with
        | own hs =>
          rcases hs with ⟨a, _, he⟩ | ⟨b', off', cap', c, T, fr, he, hcap0, hw, _, _, hcap, hsz, hrow, _, hrr⟩
          · simp at he; subst he; simp at hi
          · rw [he] at hβ
            simp only [Value.slice.injEq, Option.some.injEq, Addr.mk.injEq] at hβ
            obtain ⟨⟨rfl, rfl, _⟩, _, _⟩ := hβ
            have hb2 : off' + l.length * τ.size ≤ c.size := by
              have := Nat.mul_le_mul_right τ.size hcap
              simp at this
              omega
            obtain ⟨vs, hvs, hcell⟩ := row_vals (d := τ.dflt) hi hrow hb2 hrr
            obtain ⟨v, hrel, _, hload⟩ := hr r β0 vs hvs
            refine ⟨v, hrel.pure ho β, fun w hn => run_loadAt ?_⟩
            have hblk : (Chunk.own τ l).blk (β id) = some b' := by
              rw [he]
              simp only [Chunk.blk]
              have : Nat.beq cap' 0 = false := nbeq_of hcap0
              rw [this]; rfl
            obtain ⟨ch0, hg0, hb0⟩ := row_blk hg
            have hw' : w.heap[b']? = some (.cells c T fr) := by rw [hn.same id _ b' hg0 (by rw [hb0]; exact hblk)]; exact hw
            exact hload w b' (off' + i * τ.size) (fun j u hj => by rw [cell_of_block hw']; exact hcell _ _ hj)
    · exact h.elim
  · exact h.elim

theorem evFieldAddr_sound {P : Program} {t x f} {K : SV → Prop} (h : evFieldAddr P t x f K) :
    ∃ sv, K sv ∧ ∀ r β vx, Rel r β x vx → ∃ v, Rel r β sv v ∧ ∀ w, (Instr.fieldAt t vx f).run P w = .ok v w := by
  unfold evFieldAddr at h
  split at h
  · rename_i fs hu
    split at h
    · rename_i fd hn
      rw [nth_eq] at hn
      have hn' : (⟨fs⟩ : Array Field)[f]? = some fd := by simpa using hn
      cases hz : Nat.beq (sizeT P fd.type) 0 with
      | true => rw [hz] at h; exact h.elim
      | false =>
        rw [hz] at h
        have hz' : sizeT P fd.type ≠ 0 := by
          intro h0; rw [h0] at hz; cases hz
        obtain ⟨i, hi⟩ : ∃ i, P.info? fd.type = some i := by
          unfold sizeT at hz'
          cases hq : P.info? fd.type with
          | none => rw [hq] at hz'; exact (hz' rfl).elim
          | some i => exact ⟨i, rfl⟩
        rw [sizeT_run hi] at hz'
        have run : ∀ b off w, (Instr.fieldAt t (.pointer (some ⟨b, off, none⟩)) f).run P w = .ok (.pointer (some ⟨b, off + fd.offset, none⟩)) w := by
          intro b off w
          simp only [Instr.fieldAt, Sem.run_bind, run_underlying hu, Result.andThen_ok, hn', Instr.sureAddr, Sem.run_pure, fieldPlace, run_sizeOf hi, if_neg hz', add_mk]
        simp only [cond_false] at h
        split at h
        · rw [natK_eq] at h
          refine ⟨_, h, fun r β vx hx => ?_⟩
          cases hx with
          | loc hβ => exact ⟨_, .loc hβ, run _ _⟩
        · rw [natK_eq] at h
          refine ⟨_, h, fun r β vx hx => ?_⟩
          cases hx with
          | el hx hi =>
            refine ⟨_, .el hx hi, fun w => ?_⟩
            rw [run]
            simp only [Nat.add_assoc]; rfl
        · rw [natK_eq] at h
          refine ⟨_, h, fun r β vx hx => ?_⟩
          cases hx with
          | oel hβ =>
            refine ⟨_, .oel hβ, fun w => ?_⟩
            rw [run]
            simp only [Nat.add_assoc]; rfl
        · exact h.elim
    · exact h.elim
  · exact h.elim

theorem lits_addr {r β sz rows v} (h : Rel r β (.lits sz rows) v) (hn : 0 < rows.length) : ∃ b off cap, v = .slice (some ⟨b, off, none⟩) rows.length cap := by
  cases h with
  | litsE => simp at hn
  | lits => exact ⟨_, _, _, rfl⟩

theorem evIndexAddr_sound {P : Program} {Φ : Phi} {t x i g} {K : SV → Prop} (h : evIndexAddr P Φ t x i g K) :
    ∃ sv, K sv ∧ ((∀ p, g p → p) → ∀ r β vx vi, Rel r β x vx → Rel r β i vi → ∀ w0, MemSat r β Φ w0 → ∃ v, Rel r β sv v ∧ ∀ w, (Instr.indexAt t vx vi).run P w = .ok v w) := by
  have run : ∀ {e : TypeId} (hu : P.underlying t = some (.slice e)) (hi : P.info? e ≠ none) (k : IntKind) (i : Int) b off (n cap : Nat) (h0 : 0 ≤ i) (h1 : i < n) (w : World),
      (Instr.indexAt t (.slice (some ⟨b, off, none⟩) n cap) (.int k i)).run P w = .ok (.pointer (some ⟨b, off + i.toNat * sizeT P e, none⟩)) w := by
    intro e hu hi k i b off n cap h0 h1 w
    obtain ⟨inf, hinf⟩ := Option.ne_none_iff_exists'.1 hi
    simp only [Instr.indexAt, Sem.run_bind, asIntOf, Sem.run_pure, Result.andThen_ok, run_underlying hu, Sem.run_ite, h0, h1, and_self, if_true, run_sizeOf hinf, sizeT_run hinf, add_mk]
  unfold evIndexAddr at h
  split at h
  · rename_i e τ l k i hu
    cases hz : szOk P e τ.size with
    | false => rw [hz] at h; exact h.elim
    | true =>
      rw [hz] at h
      obtain ⟨hts, hi⟩ := szOk_spec hz
      refine ⟨_, h.2, fun hv r β vx vi hx hi' w0 m => ?_⟩
      have hb := (hv _ h.1).h
      cases hi'
      cases hx with
      | rd hx =>
        have h1 : i < ((l.map τ.enc).length : Nat) := by simpa using hb.2
        obtain ⟨b, off, cap, rfl⟩ := lits_addr hx (by omega)
        refine ⟨_, .el hx (by omega), fun w => ?_⟩
        rw [run hu hi k i _ _ _ _ hb.1 h1, hts]
        rfl
  · rename_i e id k i hu
    split at h
    · rename_i τ l hg
      cases hz : szOk P e τ.size with
      | false => rw [hz] at h; exact h.elim
      | true =>
        rw [hz] at h
        obtain ⟨hts, hi⟩ := szOk_spec hz
        refine ⟨_, h.2, fun hv r β vx vi hx hi' w0 m => ?_⟩
        have hb := (hv _ h.1).h
        cases hi'
        cases hx
        have hs := m.rowsR hg
        cases hs with
        | own hs =>
          rcases hs with ⟨a, _, he⟩ | ⟨b', off', cap', c, T, fr, he, _⟩
          · simp at he; subst he; simp at hb; omega
          · rw [he]
            have h1 : i < ((l.map τ.enc).length : Nat) := by simpa using hb.2
            refine ⟨_, .oel he, fun w => ?_⟩
            rw [run hu hi k i _ _ _ _ hb.1 h1, hts]
            rfl
    · exact h.elim
  · exact h.elim

end Go.Vc

namespace Go.Vc
set_option autoImplicit false
set_option linter.unusedVariables false

theorem tmp_bool {a : Act} {s : Nat} {t : Bool} (h : a.eval (.tmp s) = .bool t) : a.tmps[s]? = some (.bool t) := by
  simp only [Act.eval, Array.getD_eq_getD_getElem?] at h
  cases hq : a.tmps[s]? with
  | none => rw [hq] at h; simp [undef] at h
  | some v => rw [hq] at h; simp at h; rw [h]

theorem Sm.more {p r β σ t ctx g s w} (sm : Sm p r β σ t ctx g) (h : t[s]? = some (.bool w)) : Sm p r β σ t ((s, w) :: ctx) g :=
  ⟨sm.agree, fun s' w' hm => by
    rcases ctxMem_cons _ _ _ _ _ hm with ⟨rfl, rfl⟩ | hm
    · exact h
    · exact sm.ctx _ _ hm, sm.valid⟩

theorem evPick_sound {σ ctx c a b} {K : SV → Prop} (h : evPick σ ctx c a b K) :
    ∃ sv, K sv ∧ ∀ p r β (ac : Act) g, Has p c → Has p a → Has p b → Sm p r β σ ac.tmps ctx g → ∃ v, Rel r β sv v ∧ ∀ (P : Program) w dst ty pos after guard, (execOp ac.eval ⟨dst, .pick c a b, ty, pos, after, guard⟩).run P w = .ok (.value v) w := by
  unfold evPick at h
  split at h
  · rename_i s
    obtain ⟨svc, hk, hc⟩ := opK_sound h
    have lit : ∀ (t : Bool) (x : Operand) (hx : x = bif t then a else b), svc = .v (.bool t) → opK σ ((s, t) :: ctx) x K → ∃ sv, K sv ∧ ∀ p r β (ac : Act) g, Has p (.tmp s) → Has p a → Has p b → Sm p r β σ ac.tmps ctx g → ∃ v, Rel r β sv v ∧ ∀ (P : Program) w dst ty pos after guard, (execOp ac.eval ⟨dst, .pick (.tmp s) a b, ty, pos, after, guard⟩).run P w = .ok (.value v) w := by
      intro t x hxe hsv hk2
      obtain ⟨svx, hk3, hx⟩ := opK_sound hk2
      subst hsv
      refine ⟨svx, hk3, fun p r β ac g pc pa pb sm => ?_⟩
      have hcv := hc p r β ac g pc sm
      generalize hq : ac.eval (.tmp s) = v at hcv
      cases hcv
      have ht := tmp_bool hq
      refine ⟨ac.eval x, hx p r β ac g (by rw [hxe]; cases t <;> assumption) (sm.more ht), fun P w dst ty pos after guard => ?_⟩
      simp only [execOp, hq, asBool, Sem.run_bind, Sem.run_pure, Result.andThen_ok]
      subst hxe
      cases t <;> rfl
    cases svc with
    | bool t =>
      simp only at hk
      obtain ⟨svx, hk, hx⟩ := opK_sound hk
      obtain ⟨svy, hk, hy⟩ := opK_sound hk
      have ev : ∀ p r β (ac : Act) g, Has p (.tmp s) → Has p a → Has p b → Sm p r β σ ac.tmps ctx g → ac.eval (.tmp s) = .bool t ∧ (t = true → Rel r β svx (ac.eval a)) ∧ (t = false → Rel r β svy (ac.eval b)) := by
        intro p r β ac g pc pa pb sm
        have hcv := hc p r β ac g pc sm
        generalize hq : ac.eval (.tmp s) = v at hcv
        cases hcv
        have ht := tmp_bool hq
        exact ⟨rfl, fun h => by subst h; exact hx p r β ac g pa (sm.more ht), fun h => by subst h; exact hy p r β ac g pb (sm.more ht)⟩
      have fin : ∀ {sv : SV}, K sv → (∀ p r β (ac : Act) g, Has p (.tmp s) → Has p a → Has p b → Sm p r β σ ac.tmps ctx g → Rel r β sv (if t then ac.eval a else ac.eval b)) → 
          ∃ sv, K sv ∧ ∀ p r β (ac : Act) g, Has p (.tmp s) → Has p a → Has p b → Sm p r β σ ac.tmps ctx g → ∃ v, Rel r β sv v ∧ ∀ (P : Program) w dst ty pos after guard, (execOp ac.eval ⟨dst, .pick (.tmp s) a b, ty, pos, after, guard⟩).run P w = .ok (.value v) w := by
        intro sv hk hr
        refine ⟨sv, hk, fun p r β ac g pc pa pb sm => ⟨_, hr p r β ac g pc pa pb sm, fun P w dst ty pos after guard => ?_⟩⟩
        simp only [execOp, (ev p r β ac g pc pa pb sm).1, asBool, Sem.run_bind, Sem.run_pure, Result.andThen_ok]
      split at hk
      · rename_i y
        refine fin hk fun p r β ac g pc pa pb sm => ?_
        obtain ⟨_, h1, h2⟩ := ev p r β ac g pc pa pb sm
        cases t with
        | true => exact .bool
        | false => have := h2 rfl; simpa using this
      · rename_i x
        refine fin hk fun p r β ac g pc pa pb sm => ?_
        obtain ⟨_, h1, h2⟩ := ev p r β ac g pc pa pb sm
        cases t with
        | true => have := h1 rfl; simpa using this
        | false => exact .bool
      · rename_i x y _ _
        refine fin hk fun p r β ac g pc pa pb sm => ?_
        obtain ⟨_, h1, h2⟩ := ev p r β ac g pc pa pb sm
        cases t with
        | true => have := h1 rfl; simpa using this
        | false => have := h2 rfl; simpa using this
      · cases t with
        | true => exact fin (hk.1 rfl) fun p r β ac g pc pa pb sm => by simpa using (ev p r β ac g pc pa pb sm).2.1 rfl
        | false => exact fin (hk.2 rfl) fun p r β ac g pc pa pb sm => by simpa using (ev p r β ac g pc pa pb sm).2.2 rfl
    | v x =>
      cases x with
      | bool t =>
        cases t with
        | true => exact lit true a rfl rfl hk
        | false => exact lit false b rfl rfl hk
      | _ => exact hk.elim
    | _ => exact hk.elim
  · exact h.elim


theorem allOne_get {l : List SV} (h : allOne l = true) (i : Nat) (sv : SV) (hi : l[i]? = some sv) : sv.one = true := by
  induction l generalizing i with
  | nil => simp at hi
  | cons x r ih =>
    simp only [allOne, Bool.and_eq_true] at h
    cases i with
    | zero => simp at hi; subst hi; exact h.1
    | succ i => simp at hi; exact ih h.2 i hi

theorem cells_one {v : Value} (h : v.oneCell' = true) : v.cells = #[v] := by
  cases v <;> first | rfl | cases h

theorem cellsK_sound {x : SV} {K : List SV → Prop} (h : cellsK x K) :
    ∃ l, K l ∧ allOne l = true ∧ (∀ p, x.okIds p = SV.okIdsL p l) ∧ ∀ r β v, Rel r β x v → RelL r β l v.cells.toList := by
  unfold cellsK at h
  split at h
  · rename_i l
    cases ho : allOne l with
    | false => rw [ho] at h; exact h.elim
    | true =>
      rw [ho] at h
      refine ⟨l, h, ho, fun p => rfl, fun r β v hv => ?_⟩
      obtain ⟨cs, rfl, hl⟩ := hv.agg_inv
      simpa [Value.cells] using hl
  · cases ho : x.one with
    | false => rw [ho] at h; exact h.elim
    | true =>
      rw [ho] at h
      refine ⟨_, h, by simp [allOne, ho], fun p => by simp [SV.okIdsL], fun r β v hv => ?_⟩
      rw [cells_one (hv.oneCell ho)]
      refine ⟨rfl, fun i sv u q1 q2 => ?_⟩
      cases i with
      | zero => simp at q1 q2; subst q1; subst q2; exact hv
      | succ i => simp at q1

theorem zeroK_sound {P : Program} {t : TypeId} {K : List SV → Prop} (h : zeroK P t K) :
    ∃ l z, K l ∧ allOne l = true ∧ SV.okIdsL (fun _ => false) l = true ∧ (∀ w, (zeroValue t).run P w = .ok z w) ∧ (∀ r β, RelL r β l z.cells.toList) := by
  unfold zeroK at h
  split at h
  · rename_i i hi
    split at h
    · rename_i z hz
      obtain ⟨sv, hk, hid, hr⟩ := constAK_sound h
      obtain ⟨l, hk, ho, hids, hl⟩ := cellsK_sound hk
      exact ⟨l, z, hk, ho, by rw [← hids]; exact hid, fun w => by simp [zeroValue, typeInfo, hi, hz], fun r β => hl r β z (hr r β)⟩
    · exact h.elim
  · exact h.elim

theorem fillAt_sound {xs : List SV} {cs : List SV} : ∀ {off : Nat} {K : List SV → Prop}, fillAt cs off xs K →
    ∃ l, K l ∧ l.length = cs.length ∧ (xs ≠ [] → off + xs.length ≤ cs.length) ∧ ∀ j : Nat, l[j]? = if off ≤ j ∧ j < off + xs.length then xs[j - off]? else cs[j]? := by
  induction cs generalizing xs with
  | nil =>
    intro off K h
    cases xs with
    | nil => simp only [fillAt] at h; exact ⟨[], h, rfl, fun h => (h rfl).elim, fun j => by simp⟩
    | cons x xs => simp only [fillAt] at h
  | cons c r ih =>
    intro off K h
    cases xs with
    | nil =>
      have h : K (c :: r) := by cases off <;> simpa only [fillAt] using h
      refine ⟨_, h, rfl, fun h => (h rfl).elim, fun j => ?_⟩
      rw [if_neg (by simp)]
    | cons x xs =>
      cases off with
      | zero =>
        simp only [fillAt] at h
        obtain ⟨l, hk, h1, h2, h3⟩ := ih h
        refine ⟨_, hk, by simp [h1], fun _ => ?_, fun j => ?_⟩
        · by_cases hx : xs = []
          · subst hx; simp
          · have := h2 hx; simp at this ⊢; omega
        · cases j with
          | zero => simp
          | succ j =>
            simp only [List.getElem?_cons_succ, h3, Nat.zero_le, true_and, Nat.zero_add, List.length_cons, Nat.sub_zero, Nat.add_lt_add_iff_right]
      | succ o =>
        simp only [fillAt] at h
        obtain ⟨l, hk, h1, h2, h3⟩ := ih h
        refine ⟨_, hk, by simp [h1], fun hx => ?_, fun j => ?_⟩
        · have := h2 hx; simp at this ⊢; omega
        · cases j with
          | zero => simp
          | succ j =>
            simp only [List.getElem?_cons_succ, h3]
            by_cases hc : o ≤ j ∧ j < o + (x :: xs).length
            · rw [if_pos hc, if_pos (by omega)]; congr 1; omega
            · rw [if_neg hc, if_neg (by omega)]

theorem foldl_set (vs : List Value) : ∀ (cs : Array Value) (off k : Nat) (j : Nat), off + k + vs.length ≤ cs.size →
    ((vs.zipIdx k).foldl (fun (cs : Array Value) (c, j) => cs.setIfInBounds (off + j) c) cs)[j]? = if off + k ≤ j ∧ j < off + k + vs.length then vs[j - (off + k)]? else cs[j]? := by
  induction vs with
  | nil => intro cs off k j _; simp; omega
  | cons v vs ih =>
    intro cs off k j hs
    simp only [List.zipIdx_cons, List.foldl_cons]
    rw [ih _ _ _ _ (by simp at hs ⊢; omega)]
    simp only [List.length_cons] at hs ⊢
    by_cases h1 : off + (k + 1) ≤ j ∧ j < off + (k + 1) + vs.length
    · rw [if_pos h1, if_pos (by omega)]
      rw [show j - (off + k) = (j - (off + (k + 1))) + 1 by omega, List.getElem?_cons_succ]
    · rw [if_neg h1]
      by_cases h2 : j = off + k
      · subst h2
        rw [if_pos (by omega)]
        rw [Array.getElem?_setIfInBounds_self_of_lt (by omega)]
        simp
      · rw [if_neg (by omega), Array.getElem?_setIfInBounds_ne (by omega)]
theorem foldl_size (vs : List Value) : ∀ (cs : Array Value) (off k : Nat), ((vs.zipIdx k).foldl (fun (cs : Array Value) (c, j) => cs.setIfInBounds (off + j) c) cs).size = cs.size := by
  induction vs with
  | nil => intro cs off k; rfl
  | cons v vs ih => intro cs off k; simp only [List.zipIdx_cons, List.foldl_cons]; rw [ih]; simp

theorem RelL.fill {r β cs l xs} {vs : Array Value} {us : Array Value} {off : Nat} (h : RelL r β cs vs.toList) (hx : RelL r β xs us.toList) (hl : l.length = cs.length)
    (hb : xs ≠ [] → off + xs.length ≤ cs.length) (hg : ∀ j : Nat, l[j]? = if off ≤ j ∧ j < off + xs.length then xs[j - off]? else cs[j]?) (hfit : off + us.size ≤ vs.size) :
    RelL r β l (us.zipIdx.foldl (fun (cs : Array Value) (c, j) => cs.setIfInBounds (off + j) c) vs).toList := by
  have hus : us.toList.length = xs.length := hx.1
  have e : us.zipIdx.foldl (fun (cs : Array Value) (c, j) => cs.setIfInBounds (off + j) c) vs = (us.toList.zipIdx 0).foldl (fun (cs : Array Value) (c, j) => cs.setIfInBounds (off + j) c) vs := by
    rw [← Array.foldl_toList]; simp
  rw [e]
  refine ⟨by simp only [Array.length_toList, foldl_size]; rw [hl]; simpa using h.1, fun i sv v q1 q2 => ?_⟩
  rw [hg] at q1
  have q2' : ((us.toList.zipIdx 0).foldl (fun (cs : Array Value) (c, j) => cs.setIfInBounds (off + j) c) vs)[i]? = some v := by simpa using q2
  rw [foldl_set _ _ _ _ _ (by simpa using hfit)] at q2'
  simp only [Nat.add_zero, hus] at q2'
  by_cases hc : off ≤ i ∧ i < off + xs.length
  · rw [if_pos hc] at q1 q2'
    exact hx.2 _ _ _ q1 (by simpa using q2')
  · rw [if_neg hc] at q1 q2'
    exact h.2 _ _ _ q1 (by simpa using q2')

theorem fillK_sound {σ ctx place} {parts : List (Nat × Operand)} : ∀ {cs : List SV} {K : List SV → Prop}, fillK σ ctx place parts cs K →
    ∃ l, K l ∧ l.length = cs.length ∧ ∀ p r β (ac : Act) g, (∀ y ∈ parts, Has p y.2) → Sm p r β σ ac.tmps ctx g → ∀ vs : Array Value, RelL r β cs vs.toList →
      ∃ us : Array Value, Instr.fill place vs (parts.map fun (i, x) => (i, ac.eval x)) = some us ∧ RelL r β l us.toList := by
  induction parts with
  | nil => intro cs K h; exact ⟨cs, h, rfl, fun p r β ac g _ sm vs hv => ⟨vs, rfl, hv⟩⟩
  | cons p rest ih =>
    intro cs K h
    obtain ⟨i, x⟩ := p
    simp only [fillK] at h
    split at h
    · rename_i off sz hp
      obtain ⟨sv, hk, hx⟩ := opK_sound h
      obtain ⟨xs, hk, ho, _, hxs⟩ := cellsK_sound hk
      cases hz0 : Nat.beq sz 0 with
      | true => rw [hz0] at hk; exact hk.elim
      | false =>
      rw [hz0] at hk
      simp only [cond_false] at hk
      cases hz : Nat.beq (len xs) sz with
      | false => rw [hz] at hk; exact hk.elim
      | true =>
        rw [hz] at hk
        have hz := beq_of hz
        rw [len_eq] at hz
        obtain ⟨l1, hk, h1, h2, h3⟩ := fillAt_sound hk
        obtain ⟨l, hk, hll, hr⟩ := ih hk
        refine ⟨l, hk, hll.trans h1, fun p r β ac g hP sm vs hv => ?_⟩
        have hxv := hxs r β _ (hx p r β ac g (hP (i, x) (List.mem_cons_self ..)) sm)
        have hsz : (ac.eval x).cells.size = sz := by have := hxv.1; simp at this; omega
        have hoff : off + (ac.eval x).cells.size ≤ vs.size := by
          have hx0 : xs ≠ [] := by
            intro hx0
            rw [hx0] at hz
            simp at hz
            rw [← hz] at hz0
            cases hz0
          have := h2 hx0
          have hv1 := hv.1
          simp at hv1
          omega
        obtain ⟨us, hu, hl⟩ := hr p r β ac g (fun y hy => hP y (List.mem_cons_of_mem _ hy)) sm _ (hv.fill hxv h1 h2 h3 hoff)
        refine ⟨us, ?_, hl⟩
        simp only [List.map_cons, Instr.fill, hp, hsz]
        rw [hsz] at hoff
        simp only [ne_eq, not_true_eq_false, decide_false, Bool.false_or, decide_eq_true_eq, show ¬ (off + sz > vs.size) by omega, if_false]
        exact hu
    · exact h.elim
end Go.Vc

namespace Go.Vc
set_option autoImplicit false
set_option linter.unusedVariables false

theorem run_mapM {α β : Type} (P : Program) (f : α → Sem β) (g : α → β) (l : List α) (h : ∀ x ∈ l, ∀ w, (f x).run P w = .ok (g x) w) (w : World) :
    (l.mapM f).run P w = .ok (l.map g) w := by
  induction l with
  | nil => simp
  | cons x r ih =>
    simp only [List.mapM_cons, Sem.run_bind, h x (by simp), Result.andThen_ok, ih (fun y hy => h y (by simp [hy])), Sem.run_pure, List.map_cons]

theorem allInfo_mem {P : Program} {fs : List Field} (h : allInfo P fs = true) (f : Field) (hf : f ∈ fs) : ∃ i, P.info? f.type = some i := by
  induction fs with
  | nil => cases hf
  | cons x r ih =>
    simp only [allInfo, Bool.and_eq_true] at h
    cases hf with
    | head =>
      have := h.1
      unfold hasInfo at this
      split at this
      · exact ⟨_, by assumption⟩
      · cases this
    | tail _ hf => exact ih h.2 hf

theorem evBuild_sound {P : Program} {σ ctx t parts} {K : SV → Prop} (h : evBuild P σ ctx t parts K) :
    ∃ sv, K sv ∧ ∀ p r β (ac : Act) g, (∀ y ∈ parts, Has p y.2) → Sm p r β σ ac.tmps ctx g → ∃ v, Rel r β sv v ∧ ∀ w, (Instr.build t (parts.map fun (i, x) => (i, ac.eval x)).toArray).run P w = .ok v w := by
  unfold evBuild at h
  split at h
  · rename_i fs hu
    cases ha : allInfo P fs with
    | false => rw [ha] at h; exact h.elim
    | true =>
      rw [ha] at h
      obtain ⟨z, zv, hk, _, _, hz, hzr⟩ := zeroK_sound h
      obtain ⟨l, hk, _, hr⟩ := fillK_sound hk
      refine ⟨_, hk, fun p r β ac g hP sm => ?_⟩
      obtain ⟨us, hus, hl⟩ := hr p r β ac g hP sm zv.cells (hzr r β)
      refine ⟨.agg us, ?_, fun w => ?_⟩
      · have := Rel.agg (r := r) (β := β) hl.1 hl.2
        simpa using this
      · have hplaces : ∀ w, (Array.mapM (fun (f : Field) => do pure (f.offset, ← sizeOf f.type)) (⟨fs⟩ : Array Field) : Sem (Array (Nat × Nat))).run P w = .ok (fs.map fun f => (f.offset, sizeT P f.type)).toArray w := by
          intro w
          rw [show (⟨fs⟩ : Array Field) = fs.toArray from rfl, List.mapM_toArray, Sem.run_map]
          rw [run_mapM P _ (fun f => (f.offset, sizeT P f.type)) fs (fun f hf w => by
            obtain ⟨i, hi⟩ := allInfo_mem ha f hf
            simp only [Sem.run_bind, run_sizeOf hi, Result.andThen_ok, Sem.run_pure, sizeT_run hi])]
          rfl
        have hpl : placeOf P fs = (fun i => (fs.map fun f => (f.offset, sizeT P f.type)).toArray[i]?) := by
          funext i
          unfold placeOf
          rw [nth_eq]
          simp only [List.getElem?_toArray, List.getElem?_map]
          cases fs[i]? <;> rfl
        rw [hpl] at hus
        simp only [Instr.build, Sem.run_bind, hz, Result.andThen_ok, run_underlying hu, hplaces, hus, Sem.run_pure]
  · rename_i n e hu
    cases ha : hasInfo P e with
    | false => rw [ha] at h; exact h.elim
    | true =>
      rw [ha] at h
      obtain ⟨i, hi⟩ : ∃ i, P.info? e = some i := by
        unfold hasInfo at ha
        split at ha
        · exact ⟨_, by assumption⟩
        · cases ha
      obtain ⟨z, zv, hk, _, _, hz, hzr⟩ := zeroK_sound h
      obtain ⟨l, hk, _, hr⟩ := fillK_sound hk
      refine ⟨_, hk, fun p r β ac g hP sm => ?_⟩
      obtain ⟨us, hus, hl⟩ := hr p r β ac g hP sm zv.cells (hzr r β)
      refine ⟨.agg us, ?_, fun w => ?_⟩
      · have := Rel.agg (r := r) (β := β) hl.1 hl.2
        simpa using this
      · rw [sizeT_run hi] at hus
        simp only [Instr.build, Sem.run_bind, hz, Result.andThen_ok, run_underlying hu, run_sizeOf hi, hus, Sem.run_pure]
  · exact h.elim

/-! Calls. -/

open Classical in
/-- The memory in which what is owned (of the ids of which q holds) is readable. -/
noncomputable def frz (q : Nat → Bool) (r : Mem) (β : Bind) (Φ : Phi) (w : World) : Mem := fun b =>
  if ∃ id ch, q id = true ∧ Φ.get id = some ch ∧ ch.kind = 0 ∧ ch.blk (β id) = some b then w.heap[b]? else r b

theorem frz_le {q r β Φ w} (m : MemSat r β Φ w) : Mem.le r (frz q r β Φ w) := by
  intro b o h
  unfold frz
  rw [if_neg]
  · exact h
  · rintro ⟨id, ch, _, h1, _, h3⟩
    rw [m.sep _ _ _ h1 h3] at h
    cases h
theorem frz_at {q r β Φ w id ch b} (hq : q id = true) (h1 : Phi.get Φ id = some ch) (h2 : ch.kind = 0) (h3 : ch.blk (β id) = some b) : frz q r β Φ w b = w.heap[b]? := by
  unfold frz
  rw [if_pos ⟨id, ch, hq, h1, h2, h3⟩]
theorem frz_not {q r β Φ w b} (h : ∀ id ch, q id = true → Phi.get Φ id = some ch → ch.kind = 0 → ch.blk (β id) ≠ some b) : frz q r β Φ w b = r b := by
  unfold frz
  rw [if_neg]
  rintro ⟨id, ch, h0, h1, h2, h3⟩
  exact h id ch h0 h1 h2 h3
theorem frz_vis {q r β Φ w} (m : MemSat r β Φ w) (b o) (h : frz q r β Φ w b = some o) : w.heap[b]? = some o := by
  unfold frz at h
  split at h
  · exact h
  · exact m.vis _ _ h
theorem frz_mem {q r β Φ w} (m : MemSat r β Φ w) (β' : Bind) : MemSat (frz q r β Φ w) β' [] w :=
  ⟨frz_vis m, fun id ch h => by simp [Phi.get] at h, fun id ch b h => by simp [Phi.get] at h, fun id id' ch ch' b h => by simp [Phi.get] at h⟩

theorem rows_lits {r r' : Mem} (hle : r.le r') {w x bt sz rows} (h : RowsAt r w x bt sz rows) (hb : ∀ b off n cap, x = .slice (some ⟨b, off, none⟩) n cap → cap ≠ 0 → r' b = w.heap[b]?) (β : Bind) :
    Rel r' β (.lits sz rows) x := by
  rcases h with ⟨a, rfl, rfl⟩ | ⟨b, off, cap, c, T, fr, rfl, hc0, hw, _, h1, h2, h3, h4, h4', h5⟩
  · exact .litsE
  · refine .lits (by rw [hb b off _ cap rfl hc0]; exact hw) (Nat.le_trans h2 h1) h2 h4 h4' ?_ fun i row j sv v q1 q2 q3 => (h5 i row j sv v q1 q2 q3).mono hle
    have := Nat.mul_le_mul_right sz h2
    omega

theorem blk_own {τ : Ty} {l : List τ.T} {x : Value} {b off n cap} (h : x = .slice (some ⟨b, off, none⟩) n cap) (hc : cap ≠ 0) : (Chunk.own τ l).blk x = some b := by
  subst h
  simp only [Chunk.blk, nbeq_of hc]; rfl

theorem blk_ro {τ : Ty} {l : List τ.T} {x : Value} {b off n cap} (h : x = .slice (some ⟨b, off, none⟩) n cap) (hc : cap ≠ 0) : (Chunk.ro τ l).blk x = some b := by
  subst h
  simp only [Chunk.blk, nbeq_of hc]; rfl

theorem own_frz {q r β Φ w id} {τ : Ty} {l : List τ.T} (m : MemSat r β Φ w) (hq : q id = true) (hg : Phi.get Φ id = some (.own τ l)) (β' : Bind) : Rel (frz q r β Φ w) β' (.rd τ l) (β id) := by
  have hs := m.rows hg
  cases hs with
  | own hs => exact .rd (rows_lits (frz_le m) hs (fun b off n cap he hc => frz_at hq hg rfl (blk_own he hc)) β')

theorem RelL.cons {r β x l v vs} (h : Rel r β x v) (hl : RelL r β l vs) : RelL r β (x :: l) (v :: vs) :=
  ⟨by simp [hl.1], fun i sv u q1 q2 => by
    cases i with
    | zero => simp at q1 q2; subst q1; subst q2; exact h
    | succ i => exact hl.2 i sv u (by simpa using q1) (by simpa using q2)⟩
theorem RelL.uncons {r β x l vs} (h : RelL r β (x :: l) vs) : ∃ v us, vs = v :: us ∧ Rel r β x v ∧ RelL r β l us := by
  obtain ⟨h1, h2⟩ := h
  match vs, h1 with
  | v :: us, h1 => exact ⟨v, us, rfl, h2 0 x v rfl rfl, by simpa using h1, fun i sv v q1 q2 => h2 (i + 1) sv v (by simpa using q1) (by simpa using q2)⟩
theorem RelL.nil {r β} : RelL r β [] [] := ⟨rfl, fun i sv v q => by simp at q⟩
theorem RelL.nil_inv {r β vs} (h : RelL r β [] vs) : vs = [] := List.length_eq_zero_iff.1 (by simpa using h.1)
theorem RelL.mono {r r' : Mem} (hle : r.le r') {β l vs} (h : RelL r β l vs) : RelL r' β l vs := ⟨h.1, fun i sv v q1 q2 => (h.2 i sv v q1 q2).mono hle⟩
theorem Rel.aggL {r β l cs} (h : RelL r β l cs) : Rel r β (.agg l) (.agg cs.toArray) := .agg h.1 h.2
theorem Rel.aggL_inv {r β l v} (h : Rel r β (.agg l) v) : ∃ cs : List Value, v = .agg cs.toArray ∧ RelL r β l cs := by
  cases h with
  | agg hl h => exact ⟨_, rfl, hl, h⟩
theorem Rel.tupL {r β l cs} (h : RelL r β l cs) : Rel r β (.tup l) (.tuple cs.toArray) := .tup h.1 h.2
theorem Rel.tupL_inv {r β l v} (h : Rel r β (.tup l) v) : ∃ cs : List Value, v = .tuple cs.toArray ∧ RelL r β l cs := by
  cases h with
  | tup hl h => exact ⟨_, rfl, hl, h⟩
theorem Rel.fnL {r β f l cs} (h : RelL r β l cs) : Rel r β (.fn f l) (.func (.func f) #[] cs.toArray) := .fn h.1 h.2
theorem Rel.fnL_inv {r β f l v} (h : Rel r β (.fn f l) v) : ∃ cs : List Value, v = .func (.func f) #[] cs.toArray ∧ RelL r β l cs := by
  cases h with
  | fn hl h => exact ⟨_, rfl, hl, h⟩

/-- a lemma on one value, of lists of values -/
theorem lift_list {D : SV → (SV → Prop) → Prop} {DL : List SV → (List SV → Prop) → Prop} (h0 : ∀ K, DL [] K → K []) (h1 : ∀ x r K, DL (x :: r) K → D x fun y => DL r fun l => K (y :: l))
    {R : SV → SV → Prop} (hD : ∀ x K, D x K → ∃ y, K y ∧ R x y) : ∀ (xs : List SV) (K : List SV → Prop), DL xs K → ∃ ys, K ys ∧ ys.length = xs.length ∧ ∀ (i : Nat) y, ys[i]? = some y → ∃ x, xs[i]? = some x ∧ R x y := by
  intro xs
  induction xs with
  | nil => intro K h; exact ⟨[], h0 K h, rfl, fun i y q => by simp at q⟩
  | cons x r ih =>
    intro K h
    obtain ⟨y, h, hr⟩ := hD _ _ (h1 x r K h)
    obtain ⟨l, hk, hl, hh⟩ := ih _ h
    refine ⟨y :: l, hk, by simp [hl], fun i z q => ?_⟩
    cases i with
    | zero => simp at q; subst q; exact ⟨x, rfl, hr⟩
    | succ i => obtain ⟨x', q1, q2⟩ := hh i z (by simpa using q); exact ⟨x', by simpa using q1, q2⟩
theorem relL_of {r r' : Mem} {β β' : Bind} {xs ys : List SV} {R : SV → SV → Prop} (hl : ys.length = xs.length) (h : ∀ (i : Nat) y, ys[i]? = some y → ∃ x, xs[i]? = some x ∧ R x y)
    (hR : ∀ x y v, R x y → Rel r β x v → Rel r' β' y v) {vs} (hv : RelL r β xs vs) : RelL r' β' ys vs :=
  ⟨by rw [hv.1, hl], fun i y v q1 q2 => by obtain ⟨x, p1, p2⟩ := h i y q1; exact hR x y v p2 (hv.2 i x v p1 q2)⟩

/-! What is lent. -/
theorem ln0_sound {Φ : Phi} {x : SV} {K : SV → Prop} (h : ln0 Φ x K) : ∃ y, K y ∧ ∀ r β w v, MemSat r β Φ w → Rel r β x v → Rel (frz (fun _ => true) r β Φ w) β y v := by
  by_cases hx : ∃ id, x = .own id
  · obtain ⟨id, rfl⟩ := hx
    simp only [ln0] at h
    split at h
    · rename_i τ l hg
      refine ⟨_, h, fun r β w v m hr => ?_⟩
      cases hr
      exact own_frz m rfl hg β
    · exact h.elim
  · have h' : K x := by cases x <;> first | exact h | exact (hx ⟨_, rfl⟩).elim
    exact ⟨x, h', fun r β w v m hr => hr.mono (frz_le m)⟩
theorem ln0L_sound {Φ : Phi} {xs : List SV} {K : List SV → Prop} (h : ln0L Φ xs K) : ∃ ys, K ys ∧ ∀ r β w vs, MemSat r β Φ w → RelL r β xs vs → RelL (frz (fun _ => true) r β Φ w) β ys vs := by
  obtain ⟨ys, hk, hl, hh⟩ := lift_list (D := ln0 Φ) (DL := ln0L Φ) (fun _ h => h) (fun _ _ _ h => h) (fun _ _ h => ln0_sound h) xs K h
  exact ⟨ys, hk, fun r β w vs m hv => relL_of hl hh (fun x y v hR hx => hR r β w v m hx) hv⟩
theorem ln1_sound {Φ : Phi} {x : SV} {K : SV → Prop} (h : ln1 Φ x K) : ∃ y, K y ∧ ∀ r β w v, MemSat r β Φ w → Rel r β x v → Rel (frz (fun _ => true) r β Φ w) β y v := by
  by_cases hx : ∃ l, x = .agg l
  · obtain ⟨l, rfl⟩ := hx
    obtain ⟨ys, hk, hr⟩ := ln0L_sound h
    refine ⟨_, hk, fun r β w v m hv => ?_⟩
    obtain ⟨cs, rfl, hl⟩ := hv.aggL_inv
    exact .aggL (hr r β w cs m hl)
  · have h' : ln0 Φ x K := by cases x <;> first | exact h | exact (hx ⟨_, rfl⟩).elim
    exact ln0_sound h'
theorem lendK_sound {Φ : Phi} {xs : List SV} {K : List SV → Prop} (h : lendK Φ xs K) : ∃ ys, K ys ∧ ∀ r β w vs, MemSat r β Φ w → RelL r β xs vs → RelL (frz (fun _ => true) r β Φ w) β ys vs := by
  obtain ⟨ys, hk, hl, hh⟩ := lift_list (D := ln1 Φ) (DL := lendK Φ) (fun _ h => h) (fun _ _ _ h => h) (fun _ _ h => ln1_sound h) xs K h
  exact ⟨ys, hk, fun r β w vs m hv => relL_of hl hh (fun x y v hR hx => hR r β w v m hx) hv⟩
theorem ln2_sound {Φ : Phi} {x : SV} {K : SV → Prop} (h : ln2 Φ x K) : ∃ y, K y ∧ ∀ r β w v, MemSat r β Φ w → Rel r β x v → Rel (frz (fun _ => true) r β Φ w) β y v := by
  by_cases hx : ∃ l, x = .tup l
  · obtain ⟨l, rfl⟩ := hx
    obtain ⟨ys, hk, hr⟩ := lendK_sound h
    refine ⟨_, hk, fun r β w v m hv => ?_⟩
    obtain ⟨cs, rfl, hl⟩ := hv.tupL_inv
    exact .tupL (hr r β w cs m hl)
  · have h' : ln1 Φ x K := by cases x <;> first | exact h | exact (hx ⟨_, rfl⟩).elim
    exact ln1_sound h'

theorem Chunk.Sat.keep {r r' : Mem} (hle : r.le r') {β β' : Bind} {w w' x} {ch : Chunk} (h : ch.Sat r β w x) (hb : ∀ b, ch.blk x = some b → w'.heap[b]? = w.heap[b]?)
    (hβ : ∀ T cells, ch = .bx T cells → ∀ (i : Nat) sv v, cells[i]? = some sv → Rel r' β sv v → Rel r' β' sv v) : ch.Sat r' β' w' x := by
  have rows : ∀ {bt sz rows}, RowsAt r w x bt sz rows → (∀ b off n cap, x = .slice (some ⟨b, off, none⟩) n cap → cap ≠ 0 → w'.heap[b]? = w.heap[b]?) → RowsAt r' w' x bt sz rows := by
    intro bt sz rows h hb
    rcases h with ⟨a, h1, h2⟩ | ⟨b, off, cap, c, T, fr, he, hc0, hw, h0, h1, h2, h3, h4, h4', h5⟩
    · exact .inl ⟨a, h1, h2⟩
    · exact .inr ⟨b, off, cap, c, T, fr, he, hc0, by rw [hb b off _ cap he hc0]; exact hw, h0, h1, h2, h3, h4, h4', fun i row j sv v q1 q2 q3 => (h5 i row j sv v q1 q2 q3).mono hle⟩
  cases h with
  | box hx hw hl h hT =>
    rename_i b c T To cells
    exact .box hx (by rw [hb b (by rw [hx]; rfl)]; exact hw) hl (fun i sv v q1 q2 => hβ To cells rfl i sv v q1 ((h i sv v q1 q2).mono hle)) hT
  | own h => exact .own (rows h fun b off n cap he hc => hb b (blk_own he hc))
  | iter hx hw hs => 
    rename_i b s pos
    exact .iter hx (by rw [hb b (by rw [hx]; rfl)]; exact hw) hs
  | ro h => exact .ro (rows h fun b off n cap he hc => hb b (blk_ro he hc))
  | gh hx => exact .gh hx
  | mp hx hw hl hk hv h1 h2 => exact .mp hx (by rw [hb _ (by rw [hx]; rfl)]; exact hw) hl hk (fun i k v e q1 q2 => by obtain ⟨sv, p1, p2, p3⟩ := hv i k v e q1 q2; exact ⟨sv, p1, p2, p3.mono hle⟩) h1 h2

theorem Chunk.Sat.alive {r β w x} {ch : Chunk} (h : ch.Sat r β w x) {b : Nat} (hb : ch.blk x = some b) : b < w.heap.size := by
  have lt : ∀ {b : Nat} {o}, w.heap[b]? = some o → b < w.heap.size := by
    intro b o h
    rcases Nat.lt_or_ge b w.heap.size with h' | h'
    · exact h'
    · rw [Array.getElem?_eq_none h'] at h; cases h
  cases h with
  | box hx hw hl h hT => rw [hx] at hb; simp only [Chunk.blk, Option.some.injEq] at hb; subst hb; exact lt hw
  | iter hx hw hs => rw [hx] at hb; simp only [Chunk.blk, Option.some.injEq] at hb; subst hb; exact lt hw
  | ro h =>
    rcases h with ⟨a, h1, _⟩ | ⟨b', off, cap, c, T, fr, he, hc0, hw, _⟩
    · rw [h1] at hb; cases a <;> simp [Chunk.blk] at hb
    · rw [blk_ro he hc0] at hb; cases hb; exact lt hw
  | gh hx => cases hb
  | mp hx hw hl hk hv => rw [hx] at hb; simp only [Chunk.blk, Option.some.injEq] at hb; subst hb; exact lt hw
  | own h =>
    rcases h with ⟨a, h1, _⟩ | ⟨b', off, cap, c, T, fr, he, hc0, hw, _⟩
    · rw [h1] at hb; cases a <;> simp [Chunk.blk] at hb
    · rw [blk_own he hc0] at hb; cases hb; exact lt hw

theorem Hid.refl (r β Φ w) : Hid r β Φ w r β Φ w := ⟨rfl, rfl, rfl, Nat.le_refl _, fun b _ h1 h2 => ⟨rfl, h1, h2⟩, fun _ ch h _ => ⟨rfl, ch, h, rfl⟩⟩
theorem Hid.trans {r1 β1 Φ1 w1 r2 β2 Φ2 w2 r3 β3 Φ3 w3} (h : Hid r1 β1 Φ1 w1 r2 β2 Φ2 w2) (k : Hid r2 β2 Φ2 w2 r3 β3 Φ3 w3) : Hid r1 β1 Φ1 w1 r3 β3 Φ3 w3 :=
  ⟨k.os.trans h.os, k.tape.trans h.tape, k.output.trans h.output, Nat.le_trans h.size k.size, fun b hb h1 h2 => by
    obtain ⟨q1, q2, q3⟩ := h.block b hb h1 h2
    obtain ⟨p1, p2, p3⟩ := k.block b (Nat.lt_of_lt_of_le hb h.size) q2 q3
    exact ⟨p1.trans q1, p2, p3⟩, fun id ch h0 hk => by
    obtain ⟨q1, ch1, q2, q3⟩ := h.keep id ch h0 hk
    obtain ⟨p1, ch2, p2, p3⟩ := k.keep id ch1 q2 (by rw [q3]; exact hk)
    exact ⟨p1.trans q1, ch2, p2, p3.trans q3⟩⟩
theorem Near.refl {r β Φ w} (m : MemSat r β Φ w) : Near r β Φ w w := ⟨m, fun _ _ _ _ _ => rfl, Hid.refl ..⟩
theorem Near.trans {r β Φ w1 w2 w3} (h : Near r β Φ w1 w2) (k : Near r β Φ w2 w3) : Near r β Φ w1 w3 :=
  ⟨k.mem, fun id ch b h1 h2 => (k.same id ch b h1 h2).trans (h.same id ch b h1 h2), h.hid.trans k.hid⟩

theorem lt_of_get {w : World} {b : Nat} {o : Obj} (h : w.heap[b]? = some o) : b < w.heap.size := by
  rcases Nat.lt_or_ge b w.heap.size with h' | h'
  · exact h'
  · rw [Array.getElem?_eq_none h'] at h; cases h
theorem blk_lt {r β Φ w} (m : MemSat r β Φ w) {id ch b} (h1 : Phi.get Φ id = some ch) (h2 : ch.blk (β id) = some b) : b < w.heap.size := (m.chs _ _ h1).alive h2

/-- Behind a call that was handed the chunks I, and lent the ids of which q holds. -/
theorem back {q : Nat → Bool} {I : Nat → Prop} {r β Φ w βc Φc r' βc' Φc' w'} (m : MemSat r β Φ w)
    (hc : ∀ j ch b, Phi.get Φc j = some ch → ch.blk (βc j) = some b → ∃ id ch0, I id ∧ Phi.get Φ id = some ch0 ∧ ch0.blk (β id) = some b)
    (hI : ∀ id, I id → q id = false) (hle : (frz q r β Φ w).le r') (m' : MemSat r' βc' Φc' w') (hid : Hid (frz q r β Φ w) βc Φc w r' βc' Φc' w')
    (r2 : Mem) (h2 : r2.le r') (h3 : ∀ id ch b, q id = true → Phi.get Φ id = some ch → ch.kind = 0 → ch.blk (β id) = some b → r2 b = none) :
    (∀ id ch b, ¬ I id → Phi.get Φ id = some ch → ch.blk (β id) = some b → w'.heap[b]? = w.heap[b]? ∧ r2 b = none ∧ ∀ j c, Phi.get Φc' j = some c → c.blk (βc' j) ≠ some b) ∧
    (∀ b o, r2 b = some o → w'.heap[b]? = some o) ∧
    (∀ b, b < w.heap.size → r b = none → (∀ id ch, Phi.get Φ id = some ch → ch.blk (β id) ≠ some b) → w'.heap[b]? = w.heap[b]? ∧ r2 b = none ∧ ∀ j c, Phi.get Φc' j = some c → c.blk (βc' j) ≠ some b) := by
  have none2 : ∀ b, r' b = none → r2 b = none := by
    intro b hb
    cases h : r2 b with
    | none => rfl
    | some o => rw [h2 b o h] at hb; cases hb
  refine ⟨fun id ch b hi h1 hb => ?_, fun b o h => m'.vis _ _ (h2 _ _ h), fun b hb hr hn => ?_⟩
  · have hlt := blk_lt m h1 hb
    by_cases hq : q id = true ∧ ch.kind = 0
    · have hf := frz_at (r := r) (w := w) hq.1 h1 hq.2 hb
      have hs : w.heap[b]? = some w.heap[b] := Array.getElem?_eq_getElem hlt
      rw [hs] at hf ⊢
      refine ⟨m'.vis _ _ (hle _ _ hf), h3 id ch b hq.1 h1 hq.2 hb, fun j c hj hcb => ?_⟩
      have := m'.sep _ _ _ hj hcb
      rw [hle _ _ hf] at this; cases this
    · have hf : frz q r β Φ w b = none := by
        rw [frz_not, m.sep _ _ _ h1 hb]
        intro id' ch' q1 q2 q3 q4
        obtain rfl := m.nod _ _ _ _ _ h1 q2 hb q4
        rw [h1] at q2; cases q2
        exact hq ⟨q1, q3⟩
      obtain ⟨p1, p2, p3⟩ := hid.block b hlt hf (fun j c hj hcb => by
        obtain ⟨id', ch0, g1, g2, g3⟩ := hc j c b hj hcb
        obtain rfl := m.nod _ _ _ _ _ h1 g2 hb g3
        exact hi g1)
      exact ⟨p1, none2 b p2, p3⟩
  · have hf : frz q r β Φ w b = none := by
      rw [frz_not, hr]
      exact fun id ch _ h1 _ => hn id ch h1
    obtain ⟨p1, p2, p3⟩ := hid.block b hb hf (fun j c hj hcb => by
      obtain ⟨id', ch0, g1, g2, g3⟩ := hc j c b hj hcb
      exact hn _ _ g2 g3)
    exact ⟨p1, none2 b p2, p3⟩

theorem frz_none {r β Φ w} : frz (fun _ => false) r β Φ w = r := by
  funext b
  unfold frz
  rw [if_neg]
  rintro ⟨_, _, h, _⟩; cases h

/-- behind a call that was handed no chunk -/
theorem back0 {q : Nat → Bool} {r β Φ w βc r' βc' w'} (m : MemSat r β Φ w) (hle : (frz q r β Φ w).le r') (m' : MemSat r' βc' [] w') (hid : Hid (frz q r β Φ w) βc [] w r' βc' [] w')
    (r2 : Mem) (h1 : r.le r2) (h2 : r2.le r') (h3 : ∀ id ch b, q id = true → Phi.get Φ id = some ch → ch.kind = 0 → ch.blk (β id) = some b → r2 b = none) :
    MemSat r2 β Φ w' ∧ Hid r β Φ w r2 β Φ w' := by
  obtain ⟨g1, g2, g3⟩ := back (I := fun _ => False) m (fun j ch b h => by simp [Phi.get] at h) (fun _ h => h.elim) hle m' hid r2 h2 h3
  refine ⟨⟨g2, fun id ch h => (m.chs _ _ h).keep h1 (fun b hb => (g1 id ch b (fun h => h) h hb).1) (fun _ _ _ _ _ _ _ h => h), fun id ch b a1 a2 => (g1 id ch b (fun h => h) a1 a2).2.1, m.nod⟩, hid.os, hid.tape, hid.output, hid.size, fun b hb q1 q2 => ?_, fun _ ch h _ => ⟨rfl, ch, h, rfl⟩⟩
  obtain ⟨p1, p2, _⟩ := g3 b hb q1 q2
  exact ⟨p1, p2, q2⟩

/-- what is new is given away for good -/
theorem post_frz {q : Nat → Bool} {r β w r' βc' Φ' w'} (hle : r.le r') (m' : MemSat r' βc' Φ' w') (hid : Hid r β [] w r' βc' Φ' w') :
    r.le (frz (fun _ => true) r' βc' Φ' w') ∧ MemSat (frz (fun _ => true) r' βc' Φ' w') βc' [] w' ∧ Hid r β [] w (frz (fun _ => true) r' βc' Φ' w') βc' [] w' := by
  refine ⟨Mem.le_trans hle (frz_le m'), frz_mem m' _, hid.os, hid.tape, hid.output, hid.size, fun b hb h1 h2 => ?_, fun _ ch h _ => by simp [Phi.get] at h⟩
  obtain ⟨q1, q2, q3⟩ := hid.block b hb h1 h2
  refine ⟨q1, ?_, fun id ch h => by simp [Phi.get] at h⟩
  rw [frz_not (fun id ch _ g1 _ => q3 id ch g1)]
  exact q2

/-- a block of what a call hands back that was handed nothing is new -/
theorem new_block {r β w r' βc' Φ' w'} (hle : r.le r') (m' : MemSat r' βc' Φ' w') (hid : Hid r β [] w r' βc' Φ' w') {j ch b} (h1 : Phi.get Φ' j = some ch) (h2 : ch.blk (βc' j) = some b) : w.heap.size ≤ b := by
  rcases Nat.lt_or_ge b w.heap.size with h | h
  · have hr : r b = none := by
      cases hq : r b with
      | none => rfl
      | some o => have := m'.sep _ _ _ h1 h2; rw [hle _ _ hq] at this; cases this
    exact ((hid.block b h hr (fun j c h => by simp [Phi.get] at h)).2.2 j ch h1 h2).elim
  · exact h

theorem plain0_rel {r β sv v} (h : Rel r β sv v) (hp : sv.plain0 = true) (r' : Mem) (β' : Bind) : Rel r' β' sv v := by
  cases h <;> first | (cases hp; done) | skip
  · exact .int
  · exact .bool
  · rename_i h; exact .str h
theorem plain0L_get {l : List SV} (h : plain0L l = true) (i : Nat) (sv : SV) (hi : l[i]? = some sv) : sv.plain0 = true := by
  induction l generalizing i with
  | nil => simp at hi
  | cons x r ih =>
    simp only [plain0L, Bool.and_eq_true] at h
    cases i with
    | zero => simp at hi; subst hi; exact h.1
    | succ i => simp at hi; exact ih h.2 i hi
theorem plain1_rel {r β sv v} (h : Rel r β sv v) (hp : sv.plain1 = true) (r' : Mem) (β' : Bind) : Rel r' β' sv v := by
  by_cases hx : ∃ l, sv = .agg l
  · obtain ⟨l, rfl⟩ := hx
    obtain ⟨cs, rfl, hl⟩ := h.aggL_inv
    exact .aggL ⟨hl.1, fun i sv v q1 q2 => plain0_rel (hl.2 i sv v q1 q2) (plain0L_get hp i sv q1) r' β'⟩
  · have : sv.plain0 = true := by cases sv <;> first | exact hp | exact (hx ⟨_, rfl⟩).elim
    exact plain0_rel h this r' β'
theorem plain1L_get {l : List SV} (h : plain1L l = true) (i : Nat) (sv : SV) (hi : l[i]? = some sv) : sv.plain1 = true := by
  induction l generalizing i with
  | nil => simp at hi
  | cons x r ih =>
    simp only [plain1L, Bool.and_eq_true] at h
    cases i with
    | zero => simp at hi; subst hi; exact h.1
    | succ i => simp at hi; exact ih h.2 i hi
theorem plain_rel {r β sv v} (h : Rel r β sv v) (hp : sv.plain = true) (r' : Mem) (β' : Bind) : Rel r' β' sv v := by
  by_cases hx : ∃ l, sv = .tup l
  · obtain ⟨l, rfl⟩ := hx
    obtain ⟨cs, rfl, hl⟩ := h.tupL_inv
    exact .tupL ⟨hl.1, fun i sv v q1 q2 => plain1_rel (hl.2 i sv v q1 q2) (plain1L_get hp i sv q1) r' β'⟩
  · have : sv.plain1 = true := by cases sv <;> first | exact hp | exact (hx ⟨_, rfl⟩).elim
    exact plain1_rel h this r' β'
/-- a datum of a plain kind is so cell by cell -/
theorem tyPlain_enc : ∀ (τ : Ty) (x : τ.T), τ.plain = true → ∀ (j : Nat) (sv : SV), (τ.enc x)[j]? = some sv → sv.plain0 = true := by
  intro τ
  induction τ with
  | int k => intro x _ j sv h; cases j <;> simp [Ty.enc] at h; subst h; rfl
  | byte => intro x _ j sv h; cases j <;> simp [Ty.enc] at h; subst h; rfl
  | bool => intro x _ j sv h; cases j <;> simp [Ty.enc] at h; subst h; rfl
  | str => intro x _ j sv h; cases j <;> simp [Ty.enc] at h; subst h; rfl
  | sl e _ => intro x h; cases h
  | pr a b iha ihb =>
    intro x h j sv hj
    simp only [Ty.plain, Bool.and_eq_true] at h
    simp only [Ty.enc, List.getElem?_append] at hj
    split at hj
    · exact iha _ h.1 _ _ hj
    · exact ihb _ h.2 _ _ hj
/-- a readable list of a plain kind stays so in whatever memory has its block -/
theorem rd_plain {r r2 : Mem} {β β2 : Bind} {τ : Ty} {l : List τ.T} {v : Value} (h : Rel r β (.rd τ l) v) (hp : τ.plain = true) (hb : ∀ b off n cap o, v = .slice (some ⟨b, off, none⟩) n cap → n ≠ 0 → r b = some o → r2 b = some o) : Rel r2 β2 (.rd τ l) v := by
  cases h with
  | rd h =>
    refine .rd ?_
    generalize hm : l.map τ.enc = rows at h
    cases h with
    | litsE => exact .litsE
    | @lits _ _ _ b off cap c T fr hb' hn hcap hrow ho hc hr =>
      by_cases h0 : rows = []
      · subst h0; exact .litsE
      · refine .lits (hb b off _ cap _ rfl (by intro h; exact h0 (List.length_eq_zero_iff.1 h)) hb') hn hcap hrow ho hc fun i row j sv v q1 q2 q3 => ?_
        have hi : i < l.length := by
          rcases Nat.lt_or_ge i rows.length with h | h
          · rw [← hm] at h; simpa using h
          · rw [List.getElem?_eq_none h] at q1; cases q1
        have e : row = τ.enc l[i] := by
          rw [← hm, List.getElem?_map, List.getElem?_eq_getElem hi] at q1
          simpa using q1.symm
        exact plain0_rel (hr i row j sv v q1 q2 q3) (tyPlain_enc τ _ hp j sv (by rw [← e]; exact q2)) _ _
theorem plainP_get {Φ : Phi} (h : plainP Φ = true) {id ch} (hg : Phi.get Φ id = some ch) : ∃ (τ : Ty) (l : List τ.T), ch = .own τ l ∧ τ.plain = true := by
  induction Φ with
  | nil => simp [Phi.get] at hg
  | cons x r ih =>
    obtain ⟨k, c⟩ := x
    have hg' : (bif Nat.beq k id then some c else Phi.get r id) = some ch := hg
    cases c with
    | own τ l =>
      simp only [plainP, Bool.and_eq_true] at h
      cases hb : Nat.beq k id with
      | true => rw [hb] at hg'; simp at hg'; subst hg'; exact ⟨τ, l, rfl, h.1⟩
      | false => rw [hb] at hg'; exact ih h.2 hg'
    | _ => cases h

end Go.Vc
