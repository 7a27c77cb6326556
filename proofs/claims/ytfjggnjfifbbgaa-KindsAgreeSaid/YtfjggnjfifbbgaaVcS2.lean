/- A part of the proof: lemmas and walks that the last text of the claim joins; no condition. -/
import Derived.Test.YtfjggnjfifbbgaaVcS1
import Derived.Laws.Sem
import Derived.Laws.Bits
import Derived.IntWalk
namespace Go.Vc
set_option autoImplicit false
set_option linter.unusedVariables false

theorem wrap_i64 {n : Int} (h : InI64 n) : IntKind.wrap .i64 n = n := by
  obtain ⟨h1, h2⟩ := h
  simp only [IntKind.wrap, IntKind.bits, IntKind.signed, Bool.true_and]
  split
  · rename_i hc
    simp at hc
    omega
  · rename_i hc
    simp at hc
    omega
theorem wrap_kIn {k : IntKind} {n : Int} (h : kIn k n) : k.wrap n = n := by
  cases k <;> simp only [kIn, IntKind.min, IntKind.max, IntKind.signed, IntKind.bits] at h <;>
    (obtain ⟨h1, h2⟩ := h
     simp only [IntKind.wrap, IntKind.bits, IntKind.signed, Bool.true_and, Bool.false_and, Bool.false_eq_true, if_false]
     first
      | (split
         · rename_i hc; simp at hc; simp at h1 h2; omega
         · rename_i hc; simp at hc; simp at h1 h2; omega)
      | (simp at h1 h2 ⊢; omega))

theorem wrapK_sound {k n g} {K : SV → Prop} (h : wrapK k n g K) : ∃ m, K (.int k m) ∧ ((∀ p, g p → p) → k.wrap n = m) := by
  unfold wrapK at h
  split at h
  · exact ⟨_, h.2, fun hv => wrap_i64 (hv _ h.1).h⟩
  · exact ⟨_, h, fun _ => rfl⟩

/-- the result of a pure operation -/
def Res (g : Prop → Prop) (K : SV → Prop) (s : Sem Value) : Prop := ∃ sv v, K sv ∧ ((∀ p, g p → p) → (∀ r β, Rel r β sv v) ∧ ∀ P w, s.run P w = .ok v w)

theorem evInt2_sound {op k a b g} {K : SV → Prop} (h : evInt2 op k a b g K) (h1 : op ≠ .shl) (h2 : op ≠ .shr) : Res g K (Go.binOp op 0 (.int k a) (.int k b)) := by
  cases op <;> simp only [evInt2] at h
  case add => obtain ⟨m, hk, he⟩ := wrapK_sound h; exact ⟨_, .int k m, hk, fun hv => ⟨fun _ _ => .int, fun P w => by simp [Go.binOp, Op.intArith, he hv]⟩⟩
  case sub => obtain ⟨m, hk, he⟩ := wrapK_sound h; exact ⟨_, .int k m, hk, fun hv => ⟨fun _ _ => .int, fun P w => by simp [Go.binOp, Op.intArith, he hv]⟩⟩
  case mul => obtain ⟨m, hk, he⟩ := wrapK_sound h; exact ⟨_, .int k m, hk, fun hv => ⟨fun _ _ => .int, fun P w => by simp [Go.binOp, Op.intArith, he hv]⟩⟩
  case quo =>
    obtain ⟨m, hk, he⟩ := wrapK_sound h.2
    exact ⟨_, .int k m, hk, fun hv => ⟨fun _ _ => .int, fun P w => by simp [Go.binOp, Op.intDiv, he hv, (hv _ h.1).h]⟩⟩
  case rem => exact ⟨_, _, h.2, fun hv => ⟨fun _ _ => .int, fun P w => by simp [Go.binOp, Op.intDiv, (hv _ h.1).h]⟩⟩
  case and => exact ⟨_, _, h, fun hv => ⟨fun _ _ => .int, fun P w => by simp [Go.binOp, Op.intBits, bitsI]⟩⟩
  case or => exact ⟨_, _, h, fun hv => ⟨fun _ _ => .int, fun P w => by simp [Go.binOp, Op.intBits, bitsI]⟩⟩
  case xor => exact ⟨_, _, h, fun hv => ⟨fun _ _ => .int, fun P w => by simp [Go.binOp, Op.intBits, bitsI]⟩⟩
  case andNot => exact ⟨_, _, h, fun hv => ⟨fun _ _ => .int, fun P w => by simp [Go.binOp, Op.intBits, bitsI]⟩⟩
  case eql => exact ⟨_, _, h, fun hv => ⟨fun _ _ => .bool, fun P w => by simp [Go.binOp, Op.intCmp]⟩⟩
  case neq => exact ⟨_, _, h, fun hv => ⟨fun _ _ => .bool, fun P w => by simp [Go.binOp, Op.intCmp]⟩⟩
  case lss => exact ⟨_, _, h, fun hv => ⟨fun _ _ => .bool, fun P w => by simp [Go.binOp, Op.intCmp]⟩⟩
  case leq => exact ⟨_, _, h, fun hv => ⟨fun _ _ => .bool, fun P w => by simp [Go.binOp, Op.intCmp]⟩⟩
  case gtr => exact ⟨_, _, h, fun hv => ⟨fun _ _ => .bool, fun P w => by simp [Go.binOp, Op.intCmp]⟩⟩
  case geq => exact ⟨_, _, h, fun hv => ⟨fun _ _ => .bool, fun P w => by simp [Go.binOp, Op.intCmp]⟩⟩

/-- the type of the operands plays no part at integers and strings -/
theorem binOp_int_type (op : BinOp) (t t' : TypeId) (k k' : IntKind) (a b : Int) : Go.binOp op t (.int k a) (.int k' b) = Go.binOp op t' (.int k a) (.int k' b) := by
  cases op <;> rfl
theorem binOp_str_type (op : BinOp) (t t' : TypeId) (a b : ByteArray) : Go.binOp op t (.string a) (.string b) = Go.binOp op t' (.string a) (.string b) := by
  cases op <;> rfl

theorem evInt_sound {op k a k' b g} {K : SV → Prop} {t : TypeId} (h : evInt op k a k' b g K) : Res g K (Go.binOp op t (.int k a) (.int k' b)) := by
  unfold evInt at h
  split at h
  · exact ⟨_, _, h.2, fun hv => ⟨fun _ _ => .int, fun P w => by
      have := (hv _ h.1).h
      simp [Go.binOp, Op.shift, show ¬ b < 0 by omega]⟩⟩
  · exact ⟨_, _, h.2, fun hv => ⟨fun _ _ => .int, fun P w => by
      have := (hv _ h.1).h
      simp [Go.binOp, Op.shift, show ¬ b < 0 by omega]⟩⟩
  · rename_i h1 h2
    cases hk : kEq k k' with
    | false => rw [hk] at h; exact h.elim
    | true =>
      rw [hk] at h
      obtain rfl := kEq_of hk
      rw [binOp_int_type op t 0]
      exact evInt2_sound h (by rintro rfl; exact h1 rfl) (by rintro rfl; exact h2 rfl)

theorem mk_append (a b : List UInt8) : (⟨a.toArray⟩ : ByteArray) ++ ⟨b.toArray⟩ = ⟨(a ++ b).toArray⟩ := by
  apply ByteArray.ext
  simp

theorem evStr_sound {op a b g} {K : SV → Prop} {t : TypeId} (h : evStr op a b g K) : Res g K (Go.binOp op t (.string ⟨a.toArray⟩) (.string ⟨b.toArray⟩)) := by
  rw [binOp_str_type op t 0]
  cases op <;> simp only [evStr] at h
  case add =>
    refine ⟨_, .string ⟨(a ++ b).toArray⟩, h.2, fun hv => ?_⟩
    have hb := (hv _ h.1).h
    refine ⟨fun _ _ => .str (by simpa using hb), fun P w => ?_⟩
    have : ¬ ((a.length + b.length : Nat) : Int) > IntKind.i64.max := by simp [IntKind.max, IntKind.signed, IntKind.bits]; omega
    simp only [Go.binOp, Op.stringOp]
    rw [if_neg (by simpa [ByteArray.size] using this), mk_append]
    rfl
  case eql => exact ⟨_, _, h, fun hv => ⟨fun _ _ => .bool, fun P w => by simp [Go.binOp, Op.stringOp]⟩⟩
  case neq => exact ⟨_, _, h, fun hv => ⟨fun _ _ => .bool, fun P w => by simp [Go.binOp, Op.stringOp]⟩⟩
  case lss => exact ⟨_, _, h, fun hv => ⟨fun _ _ => .bool, fun P w => by simp [Go.binOp, Op.stringOp]⟩⟩
  case leq => exact ⟨_, _, h, fun hv => ⟨fun _ _ => .bool, fun P w => by simp [Go.binOp, Op.stringOp]⟩⟩
  case gtr => exact ⟨_, _, h, fun hv => ⟨fun _ _ => .bool, fun P w => by simp [Go.binOp, Op.stringOp]⟩⟩
  case geq => exact ⟨_, _, h, fun hv => ⟨fun _ _ => .bool, fun P w => by simp [Go.binOp, Op.stringOp]⟩⟩

/-- as Res, where the program's types are asked -/
def ResP (P : Program) (g : Prop → Prop) (K : SV → Prop) (s : Sem Value) : Prop := ∃ sv v, K sv ∧ ((∀ p, g p → p) → (∀ r β, Rel r β sv v) ∧ ∀ w, s.run P w = .ok v w)
theorem Res.at {g} {K : SV → Prop} {s : Sem Value} (h : Res g K s) (P : Program) : ResP P g K s := by
  obtain ⟨sv, v, hk, hr⟩ := h
  exact ⟨sv, v, hk, fun hv => ⟨(hr hv).1, (hr hv).2 P⟩⟩

theorem run_underlying {P : Program} {t : TypeId} {d : TypeDesc} (h : P.underlying t = some d) (w : World) : (underlying t).run P w = .ok d w := by
  simp [underlying, h]

/-- a symbolic value that can be only one value, and says so by itself -/
theorem run_equal_bool {P : Program} {t : TypeId} (hu : P.underlying t = some .bool) (a b : Bool) (w : World) : (Op.equal t (.bool a) (.bool b)).run P w = .ok (a == b) w := by
  unfold Op.equal Op.maxDepth
  rw [show (10000 : Nat) = 9999 + 1 from rfl, Op.equalIn]
  simp [run_underlying hu]
theorem evBin_sound {P : Program} {op t x y g} {K : SV → Prop} (h : evBin P op t x y g K) :
    ∃ sv, K sv ∧ ((∀ p, g p → p) → ∀ r β vx vy, Rel r β x vx → Rel r β y vy → ∃ v, Rel r β sv v ∧ ∀ w, (Go.binOp op t vx vy).run P w = .ok v w) := by
  unfold evBin at h
  split at h
  · obtain ⟨sv, v, hk, hr⟩ := evInt_sound (t := t) h
    refine ⟨sv, hk, fun hv r β vx vy hx hy => ?_⟩
    cases hx; cases hy
    exact ⟨v, (hr hv).1 r β, (hr hv).2 P⟩
  · obtain ⟨sv, v, hk, hr⟩ := evStr_sound (t := t) h
    refine ⟨sv, hk, fun hv r β vx vy hx hy => ?_⟩
    cases hx; cases hy
    exact ⟨v, (hr hv).1 r β, (hr hv).2 P⟩
  · split at h
    · rename_i hu
      refine ⟨_, h, fun hv r β vx vy hx hy => ?_⟩
      cases hx; cases hy
      exact ⟨_, .bool, fun w => by
        show Sem.run P (do pure (Value.bool (← Op.equal t (.bool _) (.bool _)))) w = _
        rw [Sem.run_bind, run_equal_bool hu]; rfl⟩
    · rename_i hu
      refine ⟨_, h, fun hv r β vx vy hx hy => ?_⟩
      cases hx; cases hy
      exact ⟨_, .bool, fun w => by
        show Sem.run P (do pure (Value.bool (!(← Op.equal t (.bool _) (.bool _))))) w = _
        rw [Sem.run_bind, run_equal_bool hu]; rfl⟩
    · exact h.elim
  · exact h.elim

theorem evUn_sound {P : Program} {op x g} {K : SV → Prop} (h : evUn op x g K) :
    ∃ sv, K sv ∧ ((∀ p, g p → p) → ∀ r β vx, Rel r β x vx → ∃ v, Rel r β sv v ∧ ∀ w, (Op.unary op vx).run P w = .ok v w) := by
  unfold evUn at h
  split at h
  · refine ⟨_, h, fun hv r β vx hx => ?_⟩
    cases hx
    exact ⟨_, .bool, fun w => rfl⟩
  · obtain ⟨m, hk, he⟩ := wrapK_sound h
    refine ⟨_, hk, fun hv r β vx hx => ?_⟩
    cases hx
    exact ⟨_, .int, fun w => by simp only [Op.unary, Op.intArith]; rw [he hv]; rfl⟩
  · refine ⟨_, h, fun hv r β vx hx => ?_⟩
    cases hx
    exact ⟨_, .int, fun w => by simp only [Op.unary, Op.intBits]; rfl⟩
  · exact h.elim

theorem encode_short (n : Int) : (Utf8.encode n).data.toList.length ≤ 9223372036854775807 := by
  unfold Utf8.encode
  generalize (if Utf8.valid n then n.toNat else Utf8.runeError) = c
  dsimp only
  split
  · simp
  · split
    · simp
    · split <;> simp

theorem evConv_sound {P : Program} {src dst x g} {K : SV → Prop} (h : evConv P src dst x g K) :
    ∃ sv, K sv ∧ ((∀ p, g p → p) → ∀ r β vx, Rel r β x vx → ∃ v, Rel r β sv v ∧ ∀ w, (Go.convert src dst vx).run P w = .ok v w) := by
  unfold evConv at h
  split at h
  · rename_i ds k' k n hs hd
    cases hw : kWide k k' with
    | true =>
      rw [hw] at h
      refine ⟨_, h.2, fun hv r β vx hx => ?_⟩
      cases hx
      exact ⟨_, .int, fun w => by simp [Go.convert, run_underlying hs, run_underlying hd, Conv.intToInt, wrap_kIn (hv _ h.1).h]⟩
    | false =>
      rw [hw] at h
      refine ⟨_, h, fun hv r β vx hx => ?_⟩
      cases hx
      exact ⟨_, .int, fun w => by simp [Go.convert, run_underlying hs, run_underlying hd, Conv.intToInt]⟩
  · rename_i ds k n hs hd
    refine ⟨_, h, fun hv r β vx hx => ?_⟩
    cases hx
    exact ⟨_, .str (encode_short n), fun w => by simp [Go.convert, run_underlying hs, run_underlying hd, Conv.intToString]⟩
  · rename_i ds l hs hd
    refine ⟨_, h, fun hv r β vx hx => ?_⟩
    cases hx
    rename_i hl
    exact ⟨_, .str hl, fun w => by simp [Go.convert, run_underlying hs, run_underlying hd]⟩
  · exact h.elim

end Go.Vc
