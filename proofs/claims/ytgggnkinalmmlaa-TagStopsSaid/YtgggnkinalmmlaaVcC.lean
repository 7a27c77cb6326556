/- A part of the proof: lemmas and walks that the last text of the claim joins; no condition. -/
import Derived.Test.YtgggnkinalmmlaaVcB
import Derived.OrdersIn
import Derived.Laws.RangeString
import Derived.Laws.AppendOwn
import Derived.Laws.MakeOwn
import Derived.MapKept
set_option linter.unusedVariables false
set_option linter.unusedSimpArgs false
namespace Go.Vc
set_option autoImplicit false
set_option linter.unusedVariables false

/-- What an operation comes to: a value (or nothing) at once, or through a call. -/
inductive OpTo (P : Program) (a : Act) (w : World) (o : Oper) (R : Value → World → Prop) : Prop
  | val (v : Value) (w' : World) (h : (execOp a.eval o).run P w = .ok (.value v) w') (hr : R v w')
  | skip (w' : World) (h : (execOp a.eval o).run P w = .ok .skip w') (hr : R undef w')
  | call (f : FuncId) (args : Array Value) (h : (execOp a.eval o).run P w = .ok (.enter f args) w) (hc : Calls P f args w fun e w' => ∃ v, e = .returned v ∧ R v w')
  | round (l : Nat) (f : FuncId) (tmps : Array Value) (assign body : Code) (h : (execOp a.eval o).run P w = .ok (.round l f tmps assign body) w) (hc : RoundIn (fc none) 0 P l f tmps assign body w fun e w' => ∃ v, e = .returned v ∧ R v w')

theorem OpTo.mono {P a w o R R'} (h : OpTo P a w o R) (hR : ∀ v w', R v w' → R' v w') : OpTo P a w o R' := by
  cases h with
  | val v w' h hr => exact .val v w' h (hR _ _ hr)
  | skip w' h hr => exact .skip w' h (hR _ _ hr)
  | call f args h hc => exact .call f args h (hc.mono fun e w' ⟨v, h1, h2⟩ => ⟨v, h1, hR _ _ h2⟩)
  | round l f tmps assign body h hc => exact .round l f tmps assign body h (hc.mono fun e w' ⟨v, h1, h2⟩ => ⟨v, h1, hR _ _ h2⟩)

theorem calls_witness {P : Program} {f args w} {R : Ending → World → Prop} (h : Calls P f args w R) : ∃ e w', R e w' := by
  obtain ⟨e, w', _, hR, _⟩ := h []
  exact ⟨e, w', hR⟩

theorem callsIn_fc {ro : Option Nat} {n : Nat} {P : Program} {f : FuncId} {args : Array Value} {w : World} {R : Ending → World → Prop} : CallsIn (fc ro) n P f args w R ↔ Calls P f args w R := by
  have : CallsIn (fc ro) n P f args w R ↔ CallsIn Fence.wide n P f args w R := Iff.rfl
  rw [this, callsIn_wide]

theorem roundIn_fc {ro : Option Nat} {n : Nat} {P : Program} {l : Nat} {f : FuncId} {tmps : Array Value} {assign body : Code} {w : World} {R : Ending → World → Prop} :
    RoundIn (fc ro) n P l f tmps assign body w R ↔ RoundIn (fc none) 0 P l f tmps assign body w R := by
  constructor
  · rintro ⟨h1, h2⟩
    exact ⟨h1, fun c cs hr => h2 c cs (fun d hd => by cases hd)⟩
  · rintro ⟨h1, h2⟩
    exact ⟨h1, fun c cs hr => h2 c cs (fun d hd => by cases hd)⟩
theorem OpTo.wpIn {P a w o R} (h : OpTo P a w o R) (hnd : ∀ c, o.op ≠ .defer c) {ro : Option Nat} {next : Act → World → Prop} {Q : Exit → Act → World → Prop}
    (hn : ∀ v w', R v w' → next (a.put o.dst v) w') : o.wpIn (fc ro) 0 P a w next Q := by
  refine ⟨fun _ _ => trivial, ?_⟩
  rw [Oper.semAt_eq _ _ _ hnd]
  cases h with
  | val v w' h hr => rw [h]; exact hn _ _ hr
  | skip w' h hr => rw [h]; exact hn _ _ hr
  | call f args h hc =>
    rw [h]
    refine ⟨fun h => by simp [fc, Fence.wide] at h, callsIn_fc.2 (hc.mono fun e w' ⟨v, h1, h2⟩ => ?_)⟩
    subst h1
    exact hn _ _ h2
  | round l f tmps assign body h hc =>
    rw [h]
    refine ⟨fun h => by simp [fc, Fence.wide] at h, roundIn_fc.2 (hc.mono fun e w' ⟨v, h1, h2⟩ => ?_)⟩
    subst h1
    exact hn _ _ h2

/-- Nothing that is known has turned; the value is the one that is said. -/
def Quiet (r : Mem) (β : Bind) (Φ : Phi) (w : World) (sv : SV) (v : Value) (w' : World) : Prop :=
  ∃ r', Rel r' β sv v ∧ r.le r' ∧ MemSat r' β Φ w' ∧ Hid r β Φ w r' β Φ w'
theorem Quiet.same {r β Φ w sv v} (m : MemSat r β Φ w) (h : Rel r β sv v) : Quiet r β Φ w sv v w := ⟨r, h, Mem.le_refl r, m, Hid.refl ..⟩

theorem appK_sound {l1 l2 : List SV} : ∀ {K : List SV → Prop}, appK l1 l2 K → K (l1 ++ l2) := by
  induction l1 with
  | nil => intro K h; exact h
  | cons x r ih => intro K h; exact ih h

theorem RelL.append {r β l1 l2 v1 v2} (h1 : RelL r β l1 v1) (h2 : RelL r β l2 v2) : RelL r β (l1 ++ l2) (v1 ++ v2) := by
  induction l1 generalizing v1 with
  | nil =>
    have : v1 = [] := List.length_eq_zero_iff.1 (by simpa using h1.1)
    subst this; exact h2
  | cons x l ih =>
    obtain ⟨v, us, rfl, hv, hus⟩ := h1.uncons
    exact RelL.cons hv (ih hus)

theorem memNil {r β w Φ} (m : MemSat r β Φ w) (β' : Bind) : MemSat r β' [] w :=
  ⟨m.vis, fun id ch h => by simp [Phi.get] at h, fun id ch b h => by simp [Phi.get] at h, fun id id' ch ch' b h => by simp [Phi.get] at h⟩

/-- the parts of a value that is plain, but for new chunks -/
theorem plainI0_rel {r r2 β β2 sv v} (h : Rel r β sv v) (hp : sv.plainI0 = true) (hown : ∀ j, sv = .own j → β2 j = β j) : Rel r2 β2 sv v := by
  by_cases hx : ∃ j, sv = .own j
  · obtain ⟨j, rfl⟩ := hx
    cases h with
    | own h => rw [← hown j rfl] at h ⊢; exact .own h
  · have : sv.plain0 = true := by cases sv <;> first | exact hp | exact (hx ⟨_, rfl⟩).elim
    exact plain0_rel h this _ _

/-- chunks of a plain kind, in new blocks, that are given away; r2: a memory that has these blocks -/
structure NewIn (r : Mem) (β' : Bind) (Φ' : Phi) (w' : World) (r2 : Mem) (b0 : Nat) : Prop where
  mem : MemSat r β' Φ' w'
  pl : plainP Φ' = true
  new : ∀ j ch b, Phi.get Φ' j = some ch → ch.blk (β' j) = some b → b0 ≤ b
  has : ∀ b, b0 ≤ b → r2 b = frz (fun _ => true) r β' Φ' w' b

theorem rd_new {r β' Φ' w' r2 b0 j} (hn : NewIn r β' Φ' w' r2 b0) {τ : Ty} {l : List τ.T} (hg : Phi.get Φ' j = some (.own τ l)) (β2 : Bind) : Rel r2 β2 (.rd τ l) (β' j) := by
  obtain ⟨τ', l', e, hp⟩ := plainP_get hn.pl hg
  cases e
  refine rd_plain (own_frz (q := fun _ => true) hn.mem rfl hg β') hp fun b off n cap o hv h0 ho => ?_
  rw [hn.has b ?_]
  · exact ho
  · have hs := hn.mem.rows hg
    cases hs with
    | own hs =>
      obtain ⟨a, cap', he, hc, _⟩ := hs.slice
      have hc0 : cap ≠ 0 := by
        rw [he] at hv
        simp only [Value.slice.injEq] at hv
        omega
      exact hn.new j _ b hg (blk_own hv hc0)

theorem ln0_plain {Φ' : Phi} {x : SV} {K : SV → Prop} (h : ln0 Φ' x K) (hp : x.plainI0 = true) :
    ∃ y, K y ∧ ∀ r β' w' r2 b0 v β2, NewIn r β' Φ' w' r2 b0 → Rel r β' x v → Rel r2 β2 y v := by
  by_cases hx : ∃ id, x = .own id
  · obtain ⟨id, rfl⟩ := hx
    simp only [ln0] at h
    split at h
    · rename_i τ l hg
      refine ⟨_, h, fun r β' w' r2 w v β2 hn hr => ?_⟩
      cases hr
      exact rd_new hn hg β2
    · exact h.elim
  · have h' : K x := by cases x <;> first | exact h | exact (hx ⟨_, rfl⟩).elim
    have hp' : x.plain0 = true := by cases x <;> first | exact hp | exact (hx ⟨_, rfl⟩).elim
    exact ⟨x, h', fun r β' w' r2 w v β2 _ hr => plain0_rel hr hp' _ _⟩
/-- the same of lists, where each comes with what is known of it -/
theorem lift_listP {D : SV → (SV → Prop) → Prop} {DL : List SV → (List SV → Prop) → Prop} (h0 : ∀ K, DL [] K → K []) (h1 : ∀ x r K, DL (x :: r) K → D x fun y => DL r fun l => K (y :: l))
    {R : SV → SV → Prop} {p : SV → Bool} (hD : ∀ x K, p x = true → D x K → ∃ y, K y ∧ R x y) : ∀ (xs : List SV) (K : List SV → Prop), (∀ (i : Nat) x, xs[i]? = some x → p x = true) → DL xs K →
      ∃ ys, K ys ∧ ys.length = xs.length ∧ ∀ (i : Nat) y, ys[i]? = some y → ∃ x, xs[i]? = some x ∧ R x y := by
  intro xs
  induction xs with
  | nil => intro K _ h; exact ⟨[], h0 K h, rfl, fun i y q => by simp at q⟩
  | cons x r ih =>
    intro K hp h
    obtain ⟨y, h, hr⟩ := hD _ _ (hp 0 x rfl) (h1 x r K h)
    obtain ⟨l, hk, hl, hh⟩ := ih _ (fun i z hz => hp (i + 1) z (by simpa using hz)) h
    refine ⟨y :: l, hk, by simp [hl], fun i z q => ?_⟩
    cases i with
    | zero => simp at q; subst q; exact ⟨x, rfl, hr⟩
    | succ i => obtain ⟨x', q1, q2⟩ := hh i z (by simpa using q); exact ⟨x', by simpa using q1, q2⟩
theorem plainI0L_get {l : List SV} (h : plainI0L l = true) (i : Nat) (sv : SV) (hi : l[i]? = some sv) : sv.plainI0 = true := by
  induction l generalizing i with
  | nil => simp at hi
  | cons x r ih =>
    simp only [plainI0L, Bool.and_eq_true] at h
    cases i with
    | zero => simp at hi; subst hi; exact h.1
    | succ i => simp at hi; exact ih h.2 i hi
theorem plainI1L_get {l : List SV} (h : plainI1L l = true) (i : Nat) (sv : SV) (hi : l[i]? = some sv) : sv.plainI1 = true := by
  induction l generalizing i with
  | nil => simp at hi
  | cons x r ih =>
    simp only [plainI1L, Bool.and_eq_true] at h
    cases i with
    | zero => simp at hi; subst hi; exact h.1
    | succ i => simp at hi; exact ih h.2 i hi
theorem ln1_plain {Φ' : Phi} {x : SV} {K : SV → Prop} (h : ln1 Φ' x K) (hp : x.plainI1 = true) :
    ∃ y, K y ∧ ∀ r β' w' r2 b0 v β2, NewIn r β' Φ' w' r2 b0 → Rel r β' x v → Rel r2 β2 y v := by
  by_cases hx : ∃ l, x = .agg l
  · obtain ⟨l, rfl⟩ := hx
    obtain ⟨ys, hk, hl, hh⟩ := lift_listP (D := ln0 Φ') (DL := ln0L Φ') (fun _ h => h) (fun _ _ _ h => h) (fun _ _ hp h => ln0_plain h hp) l _ (plainI0L_get hp) h
    refine ⟨_, hk, fun r β' w' r2 b0 v β2 hn hv => ?_⟩
    obtain ⟨cs, rfl, hcs⟩ := hv.aggL_inv
    exact .aggL (relL_of hl hh (fun x y v hR hx => hR r β' w' r2 b0 v β2 hn hx) hcs)
  · have h' : ln0 Φ' x K := by cases x <;> first | exact h | exact (hx ⟨_, rfl⟩).elim
    have hp' : x.plainI0 = true := by cases x <;> first | exact hp | exact (hx ⟨_, rfl⟩).elim
    exact ln0_plain h' hp'
theorem ln2_plain {Φ' : Phi} {x : SV} {K : SV → Prop} (h : ln2 Φ' x K) (hp : x.plainI = true) :
    ∃ y, K y ∧ ∀ r β' w' r2 b0 v β2, NewIn r β' Φ' w' r2 b0 → Rel r β' x v → Rel r2 β2 y v := by
  by_cases hx : ∃ l, x = .tup l
  · obtain ⟨l, rfl⟩ := hx
    obtain ⟨ys, hk, hl, hh⟩ := lift_listP (D := ln1 Φ') (DL := lendK Φ') (fun _ h => h) (fun _ _ _ h => h) (fun _ _ hp h => ln1_plain h hp) l _ (plainI1L_get hp) h
    refine ⟨_, hk, fun r β' w' r2 b0 v β2 hn hv => ?_⟩
    obtain ⟨cs, rfl, hcs⟩ := hv.tupL_inv
    exact .tupL (relL_of hl hh (fun x y v hR hx => hR r β' w' r2 b0 v β2 hn hx) hcs)
  · have h' : ln1 Φ' x K := by cases x <;> first | exact h | exact (hx ⟨_, rfl⟩).elim
    have hp' : x.plainI1 = true := by cases x <;> first | exact hp | exact (hx ⟨_, rfl⟩).elim
    exact ln1_plain h' hp'

/-- a call of a known function that turns nothing -/
theorem call_sound {B : Base} {Φ f args g} {K : SV → Prop} (h : callK B Φ f args g K) :
    ∃ sv, K sv ∧ ((∀ p, g p → p) → ∀ r β w0 vs a o, B.G r → MemSat r β Φ w0 → RelL r β args vs →
      (∀ w, (execOp a.eval o).run B.P w = (callFunc f vs.toArray).run B.P w) → OpTo B.P a w0 o (Quiet r β Φ w0 sv)) := by
  obtain ⟨largs, hk, hl⟩ := lendK_sound h
  cases hk with
  | plain pl hp k =>
    rename_i pre res fn
    refine ⟨res, k, fun hv r β w0 vs a o hG m hrel hrun => .call f vs.toArray (by rw [hrun]; exact fn.call _ _) ?_⟩
    refine (fn.ok (hv _ hp).h (frz (fun _ => true) r β Φ w0) β w0 vs (B.mono _ _ (frz_le m) hG) (frz_mem m β) (hl r β w0 vs m hrel)).mono ?_
    rintro e w' ⟨v, sv, r', β', Φ', he, ⟨rfl, rfl⟩, hr, m', hle, hid⟩
    obtain ⟨q1, q2⟩ := back0 m hle m' hid r (Mem.le_refl r) (Mem.le_trans (frz_le m) hle) (fun id ch b _ h1 _ h3 => m.sep _ _ _ h1 h3)
    exact ⟨v, he, r, plain_rel hr pl _ _, Mem.le_refl r, q1, q2⟩
  | mk pl hp k =>
    rename_i pre res fn
    refine ⟨res, k, fun hv r β w0 vs a o hG m hrel hrun => .call f vs.toArray (by rw [hrun]; exact fn.call _ _) ?_⟩
    refine (fn.ok (hv _ hp).h r β w0 vs hG (memNil m β) hrel).mono ?_
    rintro e w' ⟨v, sv, r', β', Φ', he, ⟨rfl, rfl⟩, hr, m', hle, hid⟩
    obtain ⟨q1, q2⟩ := back0 (q := fun _ => false) m (by rw [frz_none]; exact hle) m' (by rw [frz_none]; exact hid) r' hle (Mem.le_refl _) (fun _ _ _ h => by cases h)
    exact ⟨v, he, r', hr.pure pl β, hle, q1, q2⟩
  | nwl pl hp k =>
    rename_i pre res Φ' fn
    simp only [Bool.and_eq_true] at pl
    obtain ⟨sv, hk, hsv⟩ := ln2_plain k pl.1
    refine ⟨sv, hk, fun hv r β w0 vs a o hG m hrel hrun => .call f vs.toArray (by rw [hrun]; exact fn.call _ _) ?_⟩
    refine (fn.ok (hv _ hp).h (frz (fun _ => true) r β Φ w0) β w0 vs (B.mono _ _ (frz_le m) hG) (frz_mem m β) (hl r β w0 vs m hrel)).mono ?_
    rintro e w' ⟨v, sv1, r', β', Φ1, he, ⟨rfl, rfl⟩, hr, m', hle, hid⟩
    obtain ⟨g1, g2, g3⟩ := post_frz (q := fun _ => true) hle m' hid
    obtain ⟨r2, hr2⟩ : ∃ r2 : Mem, r2 = fun b => if b < w0.heap.size then r b else frz (fun _ => true) r' β' Φ1 w' b := ⟨_, rfl⟩
    have h1 : r.le r2 := by
      intro b o hb
      rw [hr2]
      have := lt_of_get (m.vis _ _ hb)
      simp only [this, if_true]; exact hb
    have h2 : r2.le (frz (fun _ => true) r' β' Φ1 w') := by
      intro b o hb
      rw [hr2] at hb
      simp only at hb
      split at hb
      · exact g1 _ _ (frz_le m _ _ hb)
      · exact hb
    obtain ⟨q1, q2⟩ := back0 m g1 g2 g3 r2 h1 h2 (fun id ch b _ p1 _ p3 => by
      rw [hr2]
      simp only [blk_lt m p1 p3, if_true]
      exact m.sep _ _ _ p1 p3)
    have hnew : NewIn r' β' Φ1 w' r2 w0.heap.size := ⟨m', pl.2, fun j ch b p1 p2 => new_block hle m' hid p1 p2, fun b hb => by rw [hr2]; simp only [show ¬ b < w0.heap.size by omega, if_false]⟩
    exact ⟨v, he, r2, hsv r' β' w' r2 _ v β hnew hr, h1, q1, q2⟩
  | nw hp k =>
    rename_i pre res Φ' fn
    obtain ⟨sv, hk, hsv⟩ := ln2_sound k
    cases hpl : SV.okIds (fun _ => false) sv with
    | false => rw [hpl] at hk; exact hk.elim
    | true =>
    rw [hpl] at hk
    refine ⟨sv, hk, fun hv r β w0 vs a o hG m hrel hrun => .call f vs.toArray (by rw [hrun]; exact fn.call _ _) ?_⟩
    refine (fn.ok (hv _ hp).h r β w0 vs hG (memNil m β) hrel).mono ?_
    rintro e w' ⟨v, sv1, r', β', Φ1, he, ⟨rfl, rfl⟩, hr, m', hle, hid⟩
    obtain ⟨g1, g2, g3⟩ := post_frz (q := fun _ => true) hle m' hid
    obtain ⟨q1, q2⟩ := back0 (q := fun _ => false) m (by rw [frz_none]; exact g1) g2 (by rw [frz_none]; exact g3) _ g1 (Mem.le_refl _) (fun _ _ _ h => by cases h)
    exact ⟨v, he, _, (hsv r' β' w' v m' hr).pure hpl β, g1, q1, q2⟩

theorem evalL {a : Act} {xs : List Operand} {l : List SV} {r β} (h1 : l.length = xs.length) (h2 : ∀ (i : Nat) sv x, l[i]? = some sv → xs[i]? = some x → Rel r β sv (a.eval x)) : RelL r β l (xs.map a.eval) :=
  ⟨by simp [h1], fun i sv v q1 q2 => by
    rw [List.getElem?_map] at q2
    cases hx : xs[i]? with
    | none => rw [hx] at q2; cases q2
    | some x => rw [hx] at q2; simp at q2; subst q2; exact h2 i sv x q1 hx⟩
end Go.Vc

namespace Go.Vc
set_option autoImplicit false
set_option linter.unusedVariables false

/-! Data out of cells. -/
theorem castK_sound {a b : Ty} {l : List a.T} {K : List b.T → Prop} (h : castK a b l K) : ∃ e : a = b, K (e ▸ l) := by
  unfold castK at h
  split at h
  · rename_i k k' l K
    cases hk : kEq k k' with
    | false => rw [hk] at h; exact h.elim
    | true =>
      rw [hk] at h
      obtain rfl := kEq_of hk
      exact ⟨rfl, h⟩
  · exact ⟨rfl, h⟩
  · exact ⟨rfl, h⟩
  · exact ⟨rfl, h⟩
  · split at h
    · rename_i hb
      have e := Ty.of_beq hb
      subst e
      exact ⟨rfl, h⟩
    · exact h.elim

/-- cells that say all that others say -/
def Entl (xs ys : List SV) : Prop :=
  ys.length = xs.length ∧ ∀ (i : Nat) x y, xs[i]? = some x → ys[i]? = some y → (∀ r β v, Rel r β x v → Rel r β y v) ∧ (x.one = true → y.one = true) ∧ (y.okIds (fun _ => false) = true)
theorem Entl.cons {x y xs ys} (h : (∀ r β v, Rel r β x v → Rel r β y v) ∧ (x.one = true → y.one = true) ∧ (y.okIds (fun _ => false) = true)) (hs : Entl xs ys) : Entl (x :: xs) (y :: ys) :=
  ⟨by simp [hs.1], fun i a b q1 q2 => by
    cases i with
    | zero => simp at q1 q2; subst q1; subst q2; exact h
    | succ i => exact hs.2 i a b (by simpa using q1) (by simpa using q2)⟩
theorem Entl.one {x y} (h : (∀ r β v, Rel r β x v → Rel r β y v) ∧ (x.one = true → y.one = true) ∧ (y.okIds (fun _ => false) = true)) : Entl [x] [y] := Entl.cons h ⟨rfl, fun i a b q => by simp at q⟩
theorem Entl.app {xs ys xs' ys'} (h : Entl xs ys) (h' : Entl xs' ys') : Entl (xs ++ xs') (ys ++ ys') :=
  ⟨by simp [h.1, h'.1], fun i a b q1 q2 => by
    rw [List.getElem?_append] at q1 q2
    rw [h.1] at q2
    split at q1
    · rename_i hlt
      rw [if_pos hlt] at q2
      exact h.2 i a b q1 q2
    · rename_i hlt
      rw [if_neg hlt] at q2
      exact h'.2 _ a b q1 q2⟩
/-- rows that say all that these data say -/
def EntRows (τ : Ty) (rows : List (List SV)) (l : List τ.T) : Prop :=
  l.length = rows.length ∧ ∀ (i : Nat) row a, rows[i]? = some row → l[i]? = some a → Entl row (τ.enc a)

theorem Entl.relL {xs ys r β vs} (h : Entl xs ys) (hv : RelL r β xs vs) : RelL r β ys vs :=
  ⟨by rw [hv.1, h.1], fun i y v q1 q2 => by
    rcases Nat.lt_or_ge i xs.length with hi | hi
    · exact (h.2 i xs[i] y (List.getElem?_eq_getElem hi) q1).1 _ _ _ (hv.2 i _ v (List.getElem?_eq_getElem hi) q2)
    · have := h.1
      rw [List.getElem?_eq_none (by omega)] at q1; cases q1⟩

theorem EntRows.lits {τ rows l sz} (h : EntRows τ rows l) (hs : sz = τ.size) {r β v} (hv : Rel r β (.lits sz rows) v) : Rel r β (.rd τ l) v := by
  refine .rd ?_
  subst hs
  cases hv with
  | litsE => rw [show l = [] from List.length_eq_zero_iff.1 (by simpa using h.1)]; exact .litsE
  | lits hb hn hcap hrow ho hc hr =>
    have hlen : (l.map τ.enc).length = rows.length := by simp [h.1]
    have key : ∀ (i : Nat) (row : List SV), (l.map τ.enc)[i]? = some row → ∃ row0, rows[i]? = some row0 ∧ Entl row0 row := by
      intro i row hi
      rw [List.getElem?_map] at hi
      cases hq : l[i]? with
      | none => rw [hq] at hi; cases hi
      | some a =>
        rw [hq] at hi
        simp at hi
        subst hi
        have hlt : i < rows.length := by
          rcases Nat.lt_or_ge i l.length with h' | h'
          · rw [← h.1]; exact h'
          · rw [List.getElem?_eq_none h'] at hq; cases hq
        exact ⟨rows[i], List.getElem?_eq_getElem hlt, h.2 i _ a (List.getElem?_eq_getElem hlt) hq⟩
    have := Rel.lits (r := r) (β := β) (sz := τ.size) (rows := l.map τ.enc) hb (by rw [hlen]; exact hn) (by rw [hlen]; exact hcap)
      (fun i row hi => by obtain ⟨row0, g1, g2⟩ := key i row hi; rw [g2.1]; exact hrow _ _ g1)
      (fun i row j sv hi hj => by
        obtain ⟨row0, g1, g2⟩ := key i row hi
        have hjl : j < row0.length := by
          rcases Nat.lt_or_ge j row0.length with h' | h'
          · exact h'
          · rw [List.getElem?_eq_none (by rw [g2.1]; exact h')] at hj; cases hj
        exact (g2.2 j _ sv (List.getElem?_eq_getElem hjl) hj).2.1 (ho _ _ _ _ g1 (List.getElem?_eq_getElem hjl)))
      (by rw [hlen]; exact hc)
      (fun i row j sv v hi hj hcv => by
        obtain ⟨row0, g1, g2⟩ := key i row hi
        have hjl : j < row0.length := by
          rcases Nat.lt_or_ge j row0.length with h' | h'
          · exact h'
          · rw [List.getElem?_eq_none (by rw [g2.1]; exact h')] at hj; cases hj
        exact (g2.2 j _ sv (List.getElem?_eq_getElem hjl) hj).1 _ _ _ (hr _ _ _ _ _ g1 (List.getElem?_eq_getElem hjl) hcv))
    rw [hlen] at this
    exact this

theorem decRowsK_sound {τ : Ty} (hD : ∀ (row : List SV) (K : τ.T → List SV → Prop), decK τ row K → ∃ a pre rest, row = pre ++ rest ∧ K a rest ∧ Entl pre (τ.enc a)) :
    ∀ {rows : List (List SV)} {K : List τ.T → Prop}, decRowsK (decK τ) rows K → ∃ l, K l ∧ EntRows τ rows l := by
  intro rows
  induction rows with
  | nil => intro K h; exact ⟨[], h, rfl, fun i row a q => by simp at q⟩
  | cons row rs ih =>
    intro K h
    obtain ⟨a, pre, rest, he, h, hent⟩ := hD _ _ h
    split at h
    · obtain ⟨l, hk, h1, h2⟩ := ih h
      refine ⟨a :: l, hk, by simp [h1], fun i r0 a0 q1 q2 => ?_⟩
      cases i with
      | zero => simp at q1 q2; subst q1; subst q2; rw [he, List.append_nil]; exact hent
      | succ i => exact h2 i r0 a0 (by simpa using q1) (by simpa using q2)
    · exact h.elim

theorem decK_sound : ∀ {τ : Ty} {row : List SV} {K : τ.T → List SV → Prop}, decK τ row K → ∃ a pre rest, row = pre ++ rest ∧ K a rest ∧ Entl pre (τ.enc a) := by
  intro τ
  induction τ with
  | int k =>
    intro row K h
    match row, h with
    | .int k' n :: r, h =>
      simp only [decK] at h
      cases hk : kEq k k' with
      | false => rw [hk] at h; exact h.elim
      | true =>
        rw [hk] at h
        obtain rfl := kEq_of hk
        exact ⟨n, [_], r, rfl, h, Entl.one ⟨fun _ _ _ h => h, fun h => h, rfl⟩⟩
  | byte =>
    intro row K h
    match row, h with
    | .int .u8 n :: r, h =>
      simp only [decK] at h
      obtain ⟨hb, h⟩ := h
      have hb := hb.h
      refine ⟨_, [_], r, rfl, h, Entl.one ⟨fun r β v hv => ?_, fun _ => rfl, rfl⟩⟩
      have e : ((UInt8.ofNat n.toNat).toNat : Int) = n := by
        rw [UInt8.toNat_ofNat']
        have : n.toNat < 256 := by omega
        rw [Nat.mod_eq_of_lt (by simpa using this)]
        omega
      rw [e]; exact hv
  | bool =>
    intro row K h
    match row, h with
    | .bool b :: r, h => exact ⟨b, [_], r, rfl, h, Entl.one ⟨fun _ _ _ h => h, fun h => h, rfl⟩⟩
  | str =>
    intro row K h
    match row, h with
    | .str l :: r, h => exact ⟨l, [_], r, rfl, h, Entl.one ⟨fun _ _ _ h => h, fun h => h, rfl⟩⟩
  | sl e ih =>
    intro row K h
    match row, h with
    | x :: r, h =>
      simp only [decK] at h
      split at h
      · refine ⟨[], [_], r, rfl, h, Entl.one ⟨fun r β v hv => ?_, fun _ => rfl, rfl⟩⟩
        cases hv; exact .rd .litsE
      · rename_i e' l
        obtain ⟨rfl, h⟩ := castK_sound h
        exact ⟨_, [_], r, rfl, h, Entl.one ⟨fun _ _ _ h => h, fun h => h, rfl⟩⟩
      · rename_i sz rows
        cases hs : Nat.beq sz e.size with
        | false => rw [hs] at h; exact h.elim
        | true =>
          rw [hs] at h
          obtain ⟨l, hk, hl⟩ := decRowsK_sound (fun _ _ h => ih h) h
          exact ⟨l, [_], r, rfl, hk, Entl.one ⟨fun _ _ _ h => hl.lits (beq_of hs) h, fun _ => rfl, rfl⟩⟩
      · exact h.elim
  | pr a b iha ihb =>
    intro row K h
    simp only [decK] at h
    obtain ⟨x, pre, rest, rfl, h, h1⟩ := iha h
    obtain ⟨y, pre', rest', rfl, h, h2⟩ := ihb h
    exact ⟨(x, y), pre ++ pre', rest', by simp, h, Entl.app h1 h2⟩

theorem dec1K_sound {τ : Ty} {row : List SV} {K : τ.T → Prop} (h : dec1K τ row K) : ∃ a, K a ∧ Entl row (τ.enc a) := by
  obtain ⟨a, pre, rest, rfl, h, he⟩ := decK_sound h
  split at h
  · exact ⟨a, h, by rw [List.append_nil]; exact he⟩
  · exact h.elim

theorem enc_len : ∀ (τ : Ty) (x : τ.T), (τ.enc x).length = τ.size := by
  intro τ
  induction τ with
  | pr a b iha ihb => intro x; simp only [Ty.enc, List.length_append, iha, ihb]; rfl
  | _ => intro x; rfl
theorem enc_one : ∀ (τ : Ty) (x : τ.T) (j : Nat) (sv : SV), (τ.enc x)[j]? = some sv → sv.one = true := by
  intro τ
  induction τ with
  | pr a b iha ihb =>
    intro x j sv h
    simp only [Ty.enc, List.getElem?_append] at h
    split at h
    · exact iha _ _ _ h
    · exact ihb _ _ _ h
  | _ => intro x j sv h; cases j <;> simp [Ty.enc] at h; subst h; rfl

/-- a new block that does not change any more -/
theorem mem_grow {r β Φ w} (m : MemSat r β Φ w) (o : Obj) :
    r.le (fun b => bif Nat.beq b w.heap.size then some o else r b) ∧ MemSat (fun b => bif Nat.beq b w.heap.size then some o else r b) β Φ { w with heap := w.heap.push o } ∧
    Hid r β Φ w (fun b => bif Nat.beq b w.heap.size then some o else r b) β Φ { w with heap := w.heap.push o } := by
  have hold : ∀ b, b < w.heap.size → Nat.beq b w.heap.size = false := fun b hb => nbeq_of (by omega)
  have hlt' : ∀ b, b < w.heap.size → ({ w with heap := w.heap.push o } : World).heap[b]? = w.heap[b]? := fun b hb => by
    show (w.heap.push o)[b]? = _
    rw [Array.getElem?_push, if_neg (by omega)]
  have hle : r.le (fun b => bif Nat.beq b w.heap.size then some o else r b) := by
    intro b o' h
    have := lt_of_get (m.vis _ _ h)
    show (bif Nat.beq b w.heap.size then some o else r b) = some o'
    rw [hold b this]; exact h
  refine ⟨hle, ⟨fun b o' h => ?_, fun id ch h => ?_, fun id ch b h1 h2 => ?_, m.nod⟩, rfl, rfl, rfl, ?_, fun b hb h1 h2 => ⟨hlt' b hb, ?_, h2⟩, fun _ ch h _ => ⟨rfl, ch, h, rfl⟩⟩
  · cases hq : Nat.beq b w.heap.size with
    | true =>
      obtain rfl := beq_of hq
      simp only [hq, cond_true] at h
      rw [← h]
      show (w.heap.push o)[w.heap.size]? = _
      simp
    | false =>
      simp only [hq, cond_false] at h
      have := m.vis _ _ h
      rw [hlt' b (lt_of_get this)]; exact this
  · exact (m.chs _ _ h).keep hle (fun b hb => hlt' b ((m.chs _ _ h).alive hb)) (fun _ _ _ _ _ _ _ h => h)
  · show (bif Nat.beq b w.heap.size then some o else r b) = none
    rw [hold b ((m.chs _ _ h1).alive h2)]
    exact m.sep _ _ _ h1 h2
  · show w.heap.size ≤ (w.heap.push o).size
    simp
  · show (bif Nat.beq b w.heap.size then some o else r b) = none
    rw [hold b hb]; exact h1
end Go.Vc

namespace Go.Vc
set_option autoImplicit false
set_option linter.unusedVariables false
set_option linter.unusedSimpArgs false

theorem lt_len {α : Type _} {l : List α} {i : Nat} {x : α} (h : l[i]? = some x) : i < l.length := by
  rcases Nat.lt_or_ge i l.length with h' | h'
  · exact h'
  · rw [List.getElem?_eq_none h'] at h; cases h
theorem toList_relL {r β l} {vs : Array Value} (h : RelL r β l vs.toList) : vs.size = l.length := by have := h.1; simpa using this

/-- n copies of a row -/
theorem madeCells_get {z : Value} {sz n : Nat} (hz : z.cells.size = sz) (i j : Nat) (hi : i < n) (hj : j < sz) : (madeCells z.cells (n * sz))[i * sz + j]? = z.cells[j]? := by
  have hb : i * sz + j < n * sz := by
    have : (i + 1) * sz ≤ n * sz := Nat.mul_le_mul_right sz hi
    rw [Nat.add_mul] at this; omega
  have hm : (i * sz + j) % z.cells.size = j := by
    rw [hz, Nat.add_comm, Nat.add_mul_mod_self_right, Nat.mod_eq_of_lt hj]
  simp only [madeCells, Array.getElem?_map, Array.getElem?_range, hb, if_true, Option.map_some, hm]
  rw [Array.getElem?_eq_getElem (by omega)]
  congr 1
  exact getElem!_pos z.cells j (by omega)

theorem repK_sound {z : List SV} : ∀ {n : Nat} {K : List SV → Prop}, repK z n K → ∃ l, K l ∧ l.length = n * z.length ∧ ∀ i j, i < n → j < z.length → l[i * z.length + j]? = z[j]? := by
  intro n
  induction n with
  | zero => intro K h; exact ⟨[], h, by simp, fun i j hi => by omega⟩
  | succ n ih =>
    intro K h
    obtain ⟨l, h, h1, h2⟩ := ih h
    obtain ⟨l', h, q1, _, q3⟩ := fillAt_sound h
    refine ⟨l', h, by rw [q1, List.length_append, h1, Nat.add_mul]; omega, fun i j hi hj => ?_⟩
    rw [q3]
    cases i with
    | zero => rw [if_pos (by omega)]; simp
    | succ i =>
      have e : (i + 1) * z.length + j = z.length + (i * z.length + j) := by rw [Nat.add_mul]; omega
      rw [e, if_neg (by omega), List.getElem?_append_right (by omega), Nat.add_sub_cancel_left]
      exact h2 i j (by omega) hj

theorem chunksK_sound {sz : Nat} : ∀ {n : Nat} {l : List SV} {K : List (List SV) → Prop}, chunksK sz n l K → ∃ rows, K rows ∧ rows.length = n ∧ n * sz ≤ l.length ∧ ∀ i row, rows[i]? = some row → row = (l.drop (i * sz)).take sz := by
  intro n
  induction n with
  | zero => intro l K h; exact ⟨[], h, rfl, by simp, fun i row h => by simp at h⟩
  | succ n ih =>
    intro l K h
    obtain ⟨h, hl⟩ := subK_sound h
    obtain ⟨rows, h, h1, h2, h3⟩ := ih h
    refine ⟨_, h, by simp [h1], by simp at h2; rw [Nat.add_mul]; omega, fun i row hi => ?_⟩
    cases i with
    | zero => simp at hi; rw [← hi]; simp
    | succ i =>
      have := h3 i row (by simpa using hi)
      rw [this, List.drop_drop, Nat.add_mul]
      congr 2; omega


theorem szOk_info {P : Program} {e : TypeId} {s : Nat} (h : szOk P e s = true) : ∃ i, P.info? e = some i ∧ i.size = s := by
  obtain ⟨h1, h2⟩ := szOk_spec h
  obtain ⟨i, hi⟩ := Option.ne_none_iff_exists'.1 h2
  exact ⟨i, hi, by rw [← h1, sizeT_run hi]⟩

/-- a slice that is written out: its rows, and the new block -/
theorem rowsOfK_sound {P : Program} {σ ctx e ln parts} {K : List (List SV) → Prop} (h : rowsOfK P σ ctx e ln parts K) :
    ∃ rows, K rows ∧ rows.length = ln ∧ (∀ (i : Nat) row, rows[i]? = some row → row.length = sizeT P e) ∧ sizeT P e ≠ 0 ∧ ln * sizeT P e ≤ 16777216 ∧
      (∀ (i : Nat) row (j : Nat) sv, rows[i]? = some row → row[j]? = some sv → sv.one = true ∧ sv.okIds (fun _ => false) = true) ∧
      ∀ p r β (a : Act) g, (∀ y ∈ parts, Has p y.2) → Sm p r β σ a.tmps ctx g → ∃ us : Array Value, us.size = ln * sizeT P e ∧
        (∀ t w, P.underlying t = some (.slice e) → (Instr.buildSlice t ln (parts.map fun (i, x) => (i, a.eval x)).toArray).run P w = .ok (.slice (some ⟨w.heap.size, 0, none⟩) ln ln) { w with heap := w.heap.push (.cells us e) }) ∧
        ∀ (i : Nat) row (j : Nat) sv v, rows[i]? = some row → row[j]? = some sv → us[i * sizeT P e + j]? = some v → Rel r β0 sv v := by
  unfold rowsOfK at h
  cases hz0 : (Nat.beq (sizeT P e) 0 || !Nat.ble (ln * sizeT P e) 16777216) with
  | true => rw [hz0] at h; exact h.elim
  | false =>
  rw [hz0] at h
  simp only [cond_false] at h
  simp only [Bool.or_eq_false_iff, Bool.not_eq_false'] at hz0
  obtain ⟨hz0, hble⟩ := hz0
  have hble := Nat.le_of_ble_eq_true hble
  obtain ⟨z, zv, h, hz1, _, hzrun, hzrel⟩ := zeroK_sound h
  cases hz2 : Nat.beq (len z) (sizeT P e) with
  | false => rw [hz2] at h; exact h.elim
  | true =>
  rw [hz2] at h
  simp only [cond_true] at h
  have hzl := beq_of hz2
  rw [len_eq] at hzl
  obtain ⟨flat, h, hfl, hfg⟩ := repK_sound h
  obtain ⟨l, h, hll, hr⟩ := fillK_sound h
  cases hz3 : (SV.okIdsL (fun _ => false) l && allOne l) with
  | false => rw [hz3] at h; exact h.elim
  | true =>
  rw [hz3] at h
  simp only [Bool.and_eq_true] at hz3
  obtain ⟨hz3, hz4⟩ := hz3
  obtain ⟨rows, hk, h1, h2, h3⟩ := chunksK_sound h
  obtain ⟨i, hi⟩ : ∃ i, P.info? e = some i := by
    unfold sizeT at hz0
    cases hq : P.info? e with
    | none => rw [hq] at hz0; cases hz0
    | some i => exact ⟨i, rfl⟩
  rw [sizeT_run hi] at *
  have hsz : 0 < i.size := by
    rcases Nat.eq_zero_or_pos i.size with h | h
    · rw [h] at hz0; cases hz0
    · exact h
  have rowlen : ∀ (k : Nat) (row : List SV), rows[k]? = some row → row.length = i.size := by
    intro k row hk'
    rw [h3 k row hk']
    have hkl := lt_len hk'
    rw [h1] at hkl
    have : (k + 1) * i.size ≤ ln * i.size := Nat.mul_le_mul_right _ hkl
    rw [Nat.add_mul] at this
    simp; omega
  have hget : ∀ (k : Nat) (row : List SV) (j : Nat) (sv : SV), rows[k]? = some row → row[j]? = some sv → l[k * i.size + j]? = some sv := by
    intro k row j sv hk' hj
    rw [h3 k row hk', List.getElem?_take] at hj
    split at hj
    · rw [List.getElem?_drop] at hj; exact hj
    · cases hj
  refine ⟨rows, hk, h1, rowlen, by omega, hble, fun k row j sv a1 a2 => ⟨allOne_get hz4 _ _ (hget k row j sv a1 a2), SV.okIdsL_get hz3 _ _ (hget k row j sv a1 a2)⟩, fun p r β a g hP sm => ?_⟩
  have hzc : zv.cells.size = i.size := by
    have := (hzrel r β).1
    simp at this
    omega
  have hflat : RelL r β flat (madeCells zv.cells (ln * i.size)).toList := by
    refine ⟨by rw [Array.length_toList, size_madeCells, hfl, hzl], fun k sv v q1 q2 => ?_⟩
    have hk := lt_len q1
    rw [hfl, hzl] at hk
    have hd : k / i.size < ln := (Nat.div_lt_iff_lt_mul hsz).2 hk
    have hm : k % i.size < i.size := Nat.mod_lt _ hsz
    have e : k / i.size * i.size + k % i.size = k := by rw [Nat.mul_comm]; exact Nat.div_add_mod k i.size
    have g1 := hfg (k / i.size) (k % i.size) hd (by rw [hzl]; exact hm)
    rw [hzl, e, q1] at g1
    have g2 := madeCells_get hzc (k / i.size) (k % i.size) hd hm
    have q2' : (madeCells zv.cells (ln * i.size))[k]? = some v := by simpa using q2
    rw [e, q2'] at g2
    exact (hzrel r β).2 _ _ _ g1.symm (by simpa using g2.symm)
  obtain ⟨us, hus, hul⟩ := hr p r β a g hP sm _ hflat
  have hl : l.length = ln * i.size := by rw [hll, hfl, hzl]
  refine ⟨us, by rw [toList_relL hul]; exact hl, fun t w ht => ?_, fun k row j sv v a1 a2 a3 => ?_⟩
  · have hbig : ¬ (ln * i.size > 2 ^ 24) := by omega
    simp only [Instr.buildSlice, Sem.run_bind, run_underlying ht, Result.andThen_ok, run_sizeOf hi, hbig, if_false, Sem.run_pure]
    have hus' : ∀ (Z : Array Value), (ln * i.size ≠ 0 → Z = zv.cells) → Instr.fill (fun k => some (k * i.size, i.size)) ((Array.range (ln * i.size)).map (Z[· % Z.size]!)) (parts.map fun (k, x) => (k, a.eval x)) = some us := by
      intro Z hZ
      by_cases h0 : ln * i.size = 0
      · have e : (Array.range (ln * i.size)).map (Z[· % Z.size]!) = madeCells zv.cells (ln * i.size) := by rw [h0]; simp [madeCells]
        rw [e]; exact hus
      · rw [hZ h0]; exact hus
    by_cases h0 : ln * i.size = 0
    · rw [if_pos h0]
      simp only [Sem.run_bind, Sem.run_pure, Result.andThen_ok, hus' #[] (fun h => (h h0).elim), newRow, run_newObj]
    · rw [if_neg h0]
      simp only [Sem.run_bind, hzrun w, Sem.run_pure, Result.andThen_ok, hus' zv.cells (fun _ => rfl), newRow, run_newObj]
  · have hlj := hget k row j sv a1 a2
    exact (hul.2 _ _ _ hlj (by simpa using a3)).pure (SV.okIdsL_get hz3 _ _ hlj) β0

end Go.Vc

namespace Go.Vc
set_option autoImplicit false
set_option linter.unusedVariables false

theorem relL_nth {r β l vs} (h : RelL r β l vs) {i : Nat} {sv : SV} (hi : nth l i = some sv) : ∃ v, vs.toArray[i]? = some v ∧ Rel r β sv v := by
  rw [nth_eq] at hi
  have hl := lt_len hi
  have : i < vs.length := by rw [h.1]; exact hl
  exact ⟨vs[i], by simp [this], h.2 i sv _ hi (List.getElem?_eq_getElem this)⟩
theorem run_part_cell {P : Program} {t : TypeId} {cs : Array Value} {off : Nat} {v : Value} {w : World} (ha : ∀ d, P.underlying t = some d → isAggD d = false) (hu : ∃ d, P.underlying t = some d) (hv : cs[off]? = some v) : (part t cs off).run P w = .ok v w := by
  obtain ⟨d, hu⟩ := hu
  have := ha d hu
  unfold part isAgg
  simp only [Sem.run_bind, run_underlying hu, Result.andThen_ok, Sem.run_pure]
  cases d <;> simp [isAggD] at this <;> simp [hv]
theorem eqFieldsK_sound {P : Program} {xs ys : List SV} : ∀ {fs : List Field} {K : Bool → Prop}, eqFieldsK P xs ys fs K → (∀ f ∈ fs, f.name ≠ "_") →
    ∃ b, K b ∧ ∀ r β vs us, RelL r β xs vs → RelL r β ys us → ∀ w, (Op.eqFields 9999 vs.toArray us.toArray fs).run P w = .ok b w := by
  intro fs
  induction fs with
  | nil => intro K h _; exact ⟨true, h, fun r β vs us _ _ w => rfl⟩
  | cons f fs ih =>
    intro K h hn
    have hn1 : f.name ≠ "_" := hn f (by simp)
    have step : ∀ {K : Bool → Prop} (c : Bool), eqFieldsK P xs ys fs (fun r => K (c && r)) →
        (∀ r β vs us, RelL r β xs vs → RelL r β ys us → ∃ a b, (∀ w, (part f.type vs.toArray f.offset).run P w = .ok a w) ∧ (∀ w, (part f.type us.toArray f.offset).run P w = .ok b w) ∧ ∀ w, (Op.equalIn 9999 f.type a b).run P w = .ok c w) →
        ∃ b, K b ∧ ∀ r β vs us, RelL r β xs vs → RelL r β ys us → ∀ w, (Op.eqFields 9999 vs.toArray us.toArray (f :: fs)).run P w = .ok b w := by
      intro K c hk hrun
      obtain ⟨b, hb, hrest⟩ := ih hk (fun g hg => hn g (by simp [hg]))
      refine ⟨_, hb, fun r β vs us h1 h2 w => ?_⟩
      obtain ⟨a, b', p1, p2, p3⟩ := hrun r β vs us h1 h2
      unfold Op.eqFields
      rw [if_pos hn1]
      simp only [Sem.run_bind, p1 w, p2 w, p3 w, Result.andThen_ok]
      cases c with
      | true => simp only [Bool.not_true, Bool.false_eq_true, if_false, Bool.true_and]; exact hrest r β vs us h1 h2 w
      | false => rfl
    unfold eqFieldsK at h
    split at h
    · rename_i k0 k a k' b hu hx hy
      cases hk : kEq k k' with
      | false => rw [hk] at h; exact h.elim
      | true =>
        rw [hk] at h
        obtain rfl := kEq_of hk
        refine step (a == b) h fun r β vs us h1 h2 => ?_
        obtain ⟨v1, g1, r1⟩ := relL_nth h1 hx
        obtain ⟨v2, g2, r2⟩ := relL_nth h2 hy
        cases r1; cases r2
        exact ⟨_, _, fun w => run_part_cell (fun d hd => by rw [hu] at hd; cases hd; rfl) ⟨_, hu⟩ g1, fun w => run_part_cell (fun d hd => by rw [hu] at hd; cases hd; rfl) ⟨_, hu⟩ g2, fun w => run_equalIn_int w 9998 f.type _ k0 a b hu⟩
    · rename_i a b hu hx hy
      refine step (a == b) h fun r β vs us h1 h2 => ?_
      obtain ⟨v1, g1, r1⟩ := relL_nth h1 hx
      obtain ⟨v2, g2, r2⟩ := relL_nth h2 hy
      cases r1; cases r2
      refine ⟨_, _, fun w => run_part_cell (fun d hd => by rw [hu] at hd; cases hd; rfl) ⟨_, hu⟩ g1, fun w => run_part_cell (fun d hd => by rw [hu] at hd; cases hd; rfl) ⟨_, hu⟩ g2, fun w => ?_⟩
      rw [run_equalIn_string w 9998 f.type _ _ hu, ByteArray.toList_eq, ByteArray.toList_eq]
    · rename_i a b hu hx hy
      refine step (a == b) h fun r β vs us h1 h2 => ?_
      obtain ⟨v1, g1, r1⟩ := relL_nth h1 hx
      obtain ⟨v2, g2, r2⟩ := relL_nth h2 hy
      cases r1; cases r2
      exact ⟨_, _, fun w => run_part_cell (fun d hd => by rw [hu] at hd; cases hd; rfl) ⟨_, hu⟩ g1, fun w => run_part_cell (fun d hd => by rw [hu] at hd; cases hd; rfl) ⟨_, hu⟩ g2, fun w => run_equalIn_bool' w 9998 f.type a b hu⟩
    · exact h.elim

theorem isPtr_some {r β x v} (h : isPtr x = true) (hx : Rel r β x v) : ∃ a, v = .pointer (some a) := by
  cases hx <;> first | exact ⟨_, rfl⟩ | cases h
theorem run_equal_ptr {P : Program} {t e : TypeId} (hu : P.underlying t = some (.pointer e)) {a b : Option Addr} {c : Bool} (w : World)
    (h : (a = none ∧ c = b.isNone) ∨ (b = none ∧ a ≠ none ∧ c = false) ∨ (a ≠ none ∧ a = b ∧ sizeT P e ≠ 0 ∧ c = true)) : (Op.equal t (.pointer a) (.pointer b)).run P w = .ok c w := by
  unfold Op.equal Op.maxDepth
  rw [show (10000 : Nat) = 9999 + 1 from rfl, Op.equalIn]
  simp only [Sem.run_bind, run_underlying hu, Result.andThen_ok]
  rcases h with ⟨rfl, rfl⟩ | ⟨rfl, h, rfl⟩ | ⟨h, rfl, hs, rfl⟩
  · cases b <;> rfl
  · cases a with
    | none => exact absurd rfl h
    | some a => rfl
  · cases a with
    | none => exact absurd rfl h
    | some a =>
      have hi : ∃ i, P.info? e = some i := by
        unfold sizeT at hs
        split at hs
        · rename_i i hi; exact ⟨i, hi⟩
        · exact absurd rfl hs
      obtain ⟨i, hi⟩ := hi
      rw [sizeT_run hi] at hs
      simp [run_sizeOf hi, hs, sameAddr]
theorem ptrEqK_sound {P : Program} {t x y} {K : Bool → Prop} (h : ptrEqK P t x y K) : ∃ b, K b ∧ ∀ r β vx vy, Rel r β x vx → Rel r β y vy → ∃ a c, vx = .pointer a ∧ vy = .pointer c ∧ ∀ w, (Op.equal t vx vy).run P w = .ok b w := by
  unfold ptrEqK at h
  split at h
  · rename_i e hu
    split at h
    · refine ⟨true, h, fun r β vx vy hx hy => ?_⟩
      cases hx; cases hy
      exact ⟨_, _, rfl, rfl, fun w => run_equal_ptr hu w (.inl ⟨rfl, rfl⟩)⟩
    · cases hp : isPtr x with
      | false => rw [hp] at h; exact h.elim
      | true =>
        rw [hp] at h
        refine ⟨false, h, fun r β vx vy hx hy => ?_⟩
        obtain ⟨a, rfl⟩ := isPtr_some hp hx
        cases hy
        exact ⟨_, _, rfl, rfl, fun w => run_equal_ptr hu w (.inr (.inl ⟨rfl, by simp, rfl⟩))⟩
    · cases hp : isPtr y with
      | false => rw [hp] at h; exact h.elim
      | true =>
        rw [hp] at h
        refine ⟨false, h, fun r β vx vy hx hy => ?_⟩
        obtain ⟨a, rfl⟩ := isPtr_some hp hy
        cases hx
        exact ⟨_, _, rfl, rfl, fun w => run_equal_ptr hu w (.inl ⟨rfl, rfl⟩)⟩
    · rename_i i off j off'
      cases hc : (Nat.beq i j && (Nat.beq off off' && !Nat.beq (sizeT P e) 0)) with
      | false => rw [hc] at h; exact h.elim
      | true =>
        rw [hc] at h
        simp only [Bool.and_eq_true, Bool.not_eq_true'] at hc
        obtain rfl := beq_of hc.1
        obtain rfl := beq_of hc.2.1
        refine ⟨true, h, fun r β vx vy hx hy => ?_⟩
        cases hx with
        | loc h1 =>
          cases hy with
          | loc h2 =>
            rw [h1] at h2
            simp only [Value.pointer.injEq, Option.some.injEq, Addr.mk.injEq, and_true] at h2
            subst h2
            refine ⟨_, _, rfl, rfl, fun w => run_equal_ptr hu w (.inr (.inr ⟨by simp, rfl, ?_, rfl⟩))⟩
            intro hz
            rw [hz] at hc
            exact absurd hc.2.2 (by simp)
    · exact h.elim
  · exact h.elim
theorem evBinB_sound {B : Base} {op t x y g} {K : SV → Prop} (h : evBinB B op t x y g K) :
    ∃ sv, K sv ∧ ((∀ p, g p → p) → ∀ r β vx vy, Rel r β x vx → Rel r β y vy → (∀ ox oy w, (eqGuard op t ox oy vx vy).run B.P w = .ok () w) ∧ ∃ v, Rel r β sv v ∧ ∀ w, (Go.binOp op t vx vy).run B.P w = .ok v w) := by
  unfold evBinB at h
  split at h
  · rename_i xs ys
    cases he : B.eqs t with
    | false => rw [he] at h; exact h.elim
    | true =>
      rw [he] at h
      obtain ⟨h1, h2, h3⟩ := B.eqs_ok t he
      simp only [cond_true] at h
      split at h
      · rename_i fs hu
        have hf : B.P.fieldsOf t = ⟨fs⟩ := by unfold Program.fieldsOf; rw [hu]
        rw [hf] at h3
        obtain ⟨b, hk, hb⟩ := eqFieldsK_sound h (fun f hf => by simpa using List.all_eq_true.1 h3 f hf)
        refine ⟨_, hk, fun hv r β vx vy hx hy => ?_⟩
        obtain ⟨cs, rfl, hcs⟩ := hx.aggL_inv
        obtain ⟨ds, rfl, hds⟩ := hy.aggL_inv
        refine ⟨fun ox oy w => run_eqGuard_agg w _ t ox oy _ _ h2, _, .bool, fun w => ?_⟩
        rw [run_eql_struct, run_equalIn_agg w 9999 t _ _ (by rw [hf]; exact hu) h1, hf, hb r β cs ds hcs hds w]
        rfl
      · rename_i fs hu
        have hf : B.P.fieldsOf t = ⟨fs⟩ := by unfold Program.fieldsOf; rw [hu]
        rw [hf] at h3
        obtain ⟨b, hk, hb⟩ := eqFieldsK_sound h (fun f hf => by simpa using List.all_eq_true.1 h3 f hf)
        refine ⟨_, hk, fun hv r β vx vy hx hy => ?_⟩
        obtain ⟨cs, rfl, hcs⟩ := hx.aggL_inv
        obtain ⟨ds, rfl, hds⟩ := hy.aggL_inv
        refine ⟨fun ox oy w => run_eqGuard_agg w _ t ox oy _ _ h2, _, .bool, fun w => ?_⟩
        rw [run_neq_struct, run_equalIn_agg w 9999 t _ _ (by rw [hf]; exact hu) h1, hf, hb r β cs ds hcs hds w]
        rfl
      · exact h.elim
  · cases hpv : isPtrV x with
    | true =>
      rw [hpv] at h
      simp only [cond_true] at h
      have fin : ∀ {neg : Bool} {o : BinOp}, (o = .eql ∧ neg = false) ∨ (o = .neq ∧ neg = true) → (ptrEqK B.P t x y fun b => K (.bool (bif neg then !b else b))) →
          ∃ sv, K sv ∧ ((∀ p, g p → p) → ∀ r β vx vy, Rel r β x vx → Rel r β y vy → (∀ ox oy w, (eqGuard o t ox oy vx vy).run B.P w = .ok () w) ∧ ∃ v, Rel r β sv v ∧ ∀ w, (Go.binOp o t vx vy).run B.P w = .ok v w) := by
        intro neg o ho h
        obtain ⟨b, hk, hb⟩ := ptrEqK_sound h
        refine ⟨_, hk, fun hv r β vx vy hx hy => ?_⟩
        obtain ⟨a, c, rfl, rfl, hrun⟩ := hb r β vx vy hx hy
        refine ⟨fun ox oy w => by unfold eqGuard; split <;> rfl, _, .bool, fun w => ?_⟩
        rcases ho with ⟨rfl, rfl⟩ | ⟨rfl, rfl⟩
        · show Sem.run B.P (do pure (Value.bool (← Op.equal t _ _))) w = _
          rw [Sem.run_bind, hrun w]; rfl
        · show Sem.run B.P (do pure (Value.bool (!(← Op.equal t _ _)))) w = _
          rw [Sem.run_bind, hrun w]; rfl
      split at h
      · exact fin (.inl ⟨rfl, rfl⟩) h
      · exact fin (.inr ⟨rfl, rfl⟩) h
      · exact h.elim
    | false =>
    rw [hpv] at h
    simp only [cond_false] at h
    obtain ⟨sv, hk, hr⟩ := evBin_sound h
    refine ⟨sv, hk, fun hv r β vx vy hx hy => ⟨fun ox oy w => ?_, hr hv r β vx vy hx hy⟩⟩
    unfold evBin at h
    split at h
    · cases hx; cases hy; unfold eqGuard; split <;> rfl
    · cases hx; cases hy; unfold eqGuard; split <;> rfl
    · cases hx; cases hy; unfold eqGuard; split <;> rfl
    · exact h.elim
end Go.Vc

namespace Go.Vc
set_option autoImplicit false
set_option linter.unusedVariables false
set_option linter.unusedSimpArgs false

theorem decKeyK_sound {κ : KTy} {x : SV} {K : κ.T → Prop} (h : decKeyK κ x K) : ∃ k, K k ∧ ∀ r β v, Rel r β x v → v = κ.val k := by
  cases κ with
  | s =>
    cases x <;> try exact h.elim
    exact ⟨_, h, fun r β v hv => by cases hv; rfl⟩
  | i k =>
    cases x <;> try exact h.elim
    rename_i k' n
    simp only [decKeyK] at h
    cases hk : kEq k k' with
    | false => rw [hk] at h; exact h.elim
    | true => rw [hk] at h; obtain rfl := kEq_of hk; exact ⟨_, h, fun r β v hv => by cases hv; rfl⟩
  | p =>
    cases x <;> try exact h.elim
    rename_i l
    match l, h with
    | [], h => exact h.elim
    | [x], h => cases x <;> exact h.elim
    | x :: y :: z :: l, h => cases x <;> cases y <;> exact h.elim
    | [x, y], h =>
      cases x <;> cases y <;> try exact h.elim
      rename_i a b
      refine ⟨(a, b), h, fun r β v hv => ?_⟩
      obtain ⟨cs, rfl, hcs⟩ := hv.aggL_inv
      obtain ⟨v1, us, rfl, h1, h2⟩ := hcs.uncons
      obtain ⟨v2, us2, rfl, h3, h4⟩ := h2.uncons
      have : us2 = [] := List.length_eq_zero_iff.1 h4.1
      subst this
      cases h1; cases h3; rfl

/-- the kind of a key's type -/
def kindOf : KTy → TypeDesc → Prop
  | .s, d => d = .string
  | .i k, d => d = .int k
  | .p, _ => False
theorem keyTyOk_spec {B : Base} {kt : TypeId} {κ : KTy} (hp : κ ≠ .p) (h : keyTyOk B kt κ = true) : ∃ d, B.P.underlying kt = some d ∧ kindOf κ d := by
  cases κ with
  | s =>
    simp only [keyTyOk, isStrTy] at h
    split at h
    · exact ⟨_, by assumption, rfl⟩
    · cases h
  | i k =>
    simp only [keyTyOk] at h
    split at h
    · exact ⟨_, by assumption, by rw [kEq_of h]; rfl⟩
    · cases h
  | p => exact absurd rfl hp
theorem kbeq_iff {κ : KTy} (a b : κ.T) : κ.beq a b = true ↔ a = b := by
  cases κ with
  | s => simp [KTy.beq]
  | i k => simp [KTy.beq]
  | p => simp [KTy.beq]
theorem ba_beq (a b : List UInt8) : ((⟨a.toArray⟩ : ByteArray) == ⟨b.toArray⟩) = (a == b) := by
  show (a.toArray == b.toArray) = (a == b)
  simp
theorem sameNow_eq {κ : KTy} {d : TypeDesc} (h : kindOf κ d) (a b : κ.T) : Instr.sameNow d (κ.val a) (κ.val b) = some (κ.beq a b) := by
  cases κ with
  | s =>
    cases h
    simp only [Instr.sameNow, KTy.val, KTy.beq]
    congr 1
    rw [ba_beq]
  | i k => cases h; simp [Instr.sameNow, KTy.val, KTy.beq]
  | p => cases h
theorem sameBits_self {κ : KTy} {d : TypeDesc} (h : kindOf κ d) (a : κ.T) : Instr.sameBits 10000 (κ.val a) (κ.val a) = true := by
  cases κ with
  | s => simp [Instr.sameBits, KTy.val, ba_beq]
  | i k => simp [Instr.sameBits, KTy.val]
  | p => cases h

theorem find_sound {κ : KTy} {d : TypeDesc} (hd : kindOf κ d) {α : Type} (k : κ.T) : ∀ (l : List (κ.T × α)) (es : List MapEntry) (i0 : Nat), es.length = l.length →
    (∀ (i : Nat) k' v e, l[i]? = some (k', v) → es[i]? = some e → e.key = κ.val k') →
    (mget κ l k = none ∧ Instr.findNow d (κ.val k) es i0 = some none ∧ ∀ a, mset κ l k a = l ++ [(k, a)]) ∨
    ∃ j v e, l[j]? = some (k, v) ∧ mget κ l k = some v ∧ es[j]? = some e ∧ Instr.findNow d (κ.val k) es i0 = some (some (i0 + j, e.val)) ∧ (∀ a, mset κ l k a = l.set j (k, a)) ∧ mdel κ l k = l.eraseIdx j := by
  intro l
  induction l with
  | nil =>
    intro es i0 hl _
    have : es = [] := List.length_eq_zero_iff.1 hl
    subst this
    exact .inl ⟨rfl, rfl, fun a => rfl⟩
  | cons x l ih =>
    intro es i0 hl hk
    obtain ⟨k', v⟩ := x
    match es, hl with
    | e :: es, hl =>
      have h0 := hk 0 k' v e rfl rfl
      simp only [Instr.findNow, h0, sameNow_eq hd]
      cases hb : κ.beq k k' with
      | true =>
        obtain rfl := (kbeq_iff k k').1 hb
        exact .inr ⟨0, v, e, rfl, by simp [mget, hb], rfl, rfl, fun a => by simp [mset, hb], by simp [mdel, hb]⟩
      | false =>
        rcases ih es (i0 + 1) (by simpa using hl) (fun i k1 v1 e1 q1 q2 => hk (i + 1) k1 v1 e1 (by simpa using q1) (by simpa using q2)) with ⟨a1, a2, a3⟩ | ⟨j, v1, e1, a1, a2, a3, a4, a5, a6⟩
        · exact .inl ⟨by simp [mget, hb, a1], a2, fun a => by simp [mset, hb, a3]⟩
        · exact .inr ⟨j + 1, v1, e1, by simpa using a1, by simp [mget, hb, a2], by simpa using a3, by rw [a4, Nat.add_assoc, Nat.add_comm 1 j], fun a => by simp [mset, hb, a5], by simp [mdel, hb, a6]⟩

theorem run_checkKey {P : Program} {κ : KTy} {d : TypeDesc} {kt : TypeId} (hu : P.underlying kt = some d) (hd : kindOf κ d) (b : Bool) (k : κ.T) (w : World) : (Instr.checkKey b 10000 kt (κ.val k)).run P w = .ok () w := by
  rw [show (10000 : Nat) = 9999 + 1 from rfl, Instr.checkKey]
  cases κ with
  | s => cases hd; simp [run_underlying hu, KTy.val]
  | i k => cases hd; simp [run_underlying hu, KTy.val]
  | p => cases hd
theorem run_findKey {P : Program} {κ : KTy} {d : TypeDesc} {kt : TypeId} (hu : P.underlying kt = some d) {k : κ.T} {es : List MapEntry} {x : Option (Nat × Value)} (h : Instr.findNow d (κ.val k) es 0 = some x) (w : World) :
    (Instr.findKey kt (κ.val k) es).run P w = .ok x w := by
  simp [Instr.findKey, run_underlying hu, h]

/-- what is asked of a kind of keys -/
structure KOk (P : Program) (kt : TypeId) (κ : KTy) : Prop where
  check : ∀ (b : Bool) (k : κ.T) (w : World), (Instr.checkKey b 10000 kt (κ.val k)).run P w = .ok () w
  bits : ∀ k : κ.T, Instr.sameBits 10000 (κ.val k) (κ.val k) = true
  find : ∀ {α : Type} (k : κ.T) (l : List (κ.T × α)) (es : List MapEntry), es.length = l.length → (∀ (i : Nat) k' v e, l[i]? = some (k', v) → es[i]? = some e → e.key = κ.val k') →
    (mget κ l k = none ∧ (∀ w, (Instr.findKey kt (κ.val k) es).run P w = .ok none w) ∧ (∀ a, mset κ l k a = l ++ [(k, a)]) ∧ mdel κ l k = l) ∨
    ∃ j v e, l[j]? = some (k, v) ∧ mget κ l k = some v ∧ es[j]? = some e ∧ (∀ w, (Instr.findKey kt (κ.val k) es).run P w = .ok (some (j, e.val)) w) ∧ (∀ a, mset κ l k a = l.set j (k, a)) ∧ mdel κ l k = l.eraseIdx j
theorem mdel_none {κ : KTy} {α : Type} {k : κ.T} : ∀ {l : List (κ.T × α)}, mget κ l k = none → mdel κ l k = l := by
  intro l
  induction l with
  | nil => intro _; rfl
  | cons x r ih =>
    intro h
    obtain ⟨k', v⟩ := x
    cases hb : κ.beq k k' with
    | true => simp [mget, hb] at h
    | false =>
      have h : mget κ r k = none := by simpa [mget, hb] using h
      simp [mdel, hb, ih h]
theorem run_part_str {P : Program} {t : TypeId} {cs : Array Value} {off : Nat} {v : Value} {w : World} (hu : P.underlying t = some .string) (hv : cs[off]? = some v) : (part t cs off).run P w = .ok v w :=
  run_part_cell (fun d hd => by rw [hu] at hd; cases hd; rfl) ⟨_, hu⟩ hv
theorem isStrTy_spec {P : Program} {t : TypeId} (h : isStrTy P t = true) : P.underlying t = some .string := by
  unfold isStrTy at h
  split at h
  · assumption
  · cases h
theorem eqFields_pair {P : Program} {f g : Field} (hf : f.name ≠ "_") (hg : g.name ≠ "_") (of : f.offset = 0) (og : g.offset = 1) (tf : P.underlying f.type = some .string) (tg : P.underlying g.type = some .string) (p q : List UInt8 × List UInt8) (w : World) :
    (Op.eqFields 9999 #[.string ⟨p.1.toArray⟩, .string ⟨p.2.toArray⟩] #[.string ⟨q.1.toArray⟩, .string ⟨q.2.toArray⟩] [f, g]).run P w = .ok (p == q) w := by
  have e1 : ∀ (x y : List UInt8) (t : TypeId) w, P.underlying t = some .string → (Op.equalIn 9999 t (.string ⟨x.toArray⟩) (.string ⟨y.toArray⟩)).run P w = .ok (x == y) w := by
    intro x y t w ht
    rw [run_equalIn_string w 9998 t _ _ ht, ByteArray.toList_eq, ByteArray.toList_eq]
  have hpq : (p == q) = (p.1 == q.1 && p.2 == q.2) := rfl
  rw [hpq]
  unfold Op.eqFields
  rw [if_pos hf]
  simp only [Sem.run_bind, run_part_str (cs := #[.string ⟨p.1.toArray⟩, .string ⟨p.2.toArray⟩]) (off := f.offset) (v := .string ⟨p.1.toArray⟩) tf (by rw [of]; rfl), run_part_str (cs := #[.string ⟨q.1.toArray⟩, .string ⟨q.2.toArray⟩]) (off := f.offset) (v := .string ⟨q.1.toArray⟩) tf (by rw [of]; rfl), e1 _ _ _ _ tf, Result.andThen_ok]
  cases p.1 == q.1 with
  | false => rfl
  | true =>
    simp only [Bool.not_true, Bool.false_eq_true, if_false, Bool.true_and]
    unfold Op.eqFields
    rw [if_pos hg]
    simp only [Sem.run_bind, run_part_str (cs := #[.string ⟨p.1.toArray⟩, .string ⟨p.2.toArray⟩]) (off := g.offset) (v := .string ⟨p.2.toArray⟩) tg (by rw [og]; rfl), run_part_str (cs := #[.string ⟨q.1.toArray⟩, .string ⟨q.2.toArray⟩]) (off := g.offset) (v := .string ⟨q.2.toArray⟩) tg (by rw [og]; rfl), e1 _ _ _ _ tg, Result.andThen_ok]
    cases p.2 == q.2 with
    | false => rfl
    | true =>
      simp only [Bool.not_true, Bool.false_eq_true, if_false]
      rfl
theorem keyTyOk_ok {B : Base} {kt : TypeId} {κ : KTy} (h : keyTyOk B kt κ = true) : KOk B.P kt κ := by
  by_cases hp : κ = .p
  · subst hp
    simp only [keyTyOk, Bool.and_eq_true] at h
    obtain ⟨he, h⟩ := h
    obtain ⟨h1, h2, h3⟩ := B.eqs_ok kt he
    split at h
    · rename_i f g hu
      simp only [Bool.and_eq_true] at h
      obtain ⟨of, og, tf, tg⟩ := h
      have of := beq_of of
      have og := beq_of og
      have tf := isStrTy_spec tf
      have tg := isStrTy_spec tg
      have hfo : B.P.fieldsOf kt = #[f, g] := by unfold Program.fieldsOf; rw [hu]
      rw [hfo] at h3
      simp only [Array.toList, List.all_cons, List.all_nil, Bool.and_true, Bool.and_eq_true, bne_iff_ne, ne_eq] at h3
      have heq : ∀ (p q : List UInt8 × List UInt8) w, (Op.equal kt (KTy.val .p p) (KTy.val .p q)).run B.P w = .ok (p == q) w := by
        intro p q w
        have e : Op.equal kt (KTy.val .p p) (KTy.val .p q) = Op.equalIn (9999 + 1) kt (.agg #[.string ⟨p.1.toArray⟩, .string ⟨p.2.toArray⟩]) (.agg #[.string ⟨q.1.toArray⟩, .string ⟨q.2.toArray⟩]) := rfl
        rw [e, run_equalIn_agg w 9999 kt _ _ (by rw [hfo]; exact hu) h1, hfo]
        exact eqFields_pair h3.1 h3.2 of og tf tg p q w
      refine ⟨fun b k w => ?_, fun k => ?_, fun {α} k l es hl hk => ?_⟩
      · rw [show (10000 : Nat) = 9998 + 1 + 1 from rfl, Instr.checkKey]
        have c1 : ∀ (t : TypeId) (x : List UInt8) w, B.P.underlying t = some .string → (Instr.checkKey b (9998 + 1) t (.string ⟨x.toArray⟩)).run B.P w = .ok () w := by
          intro t x w ht
          rw [Instr.checkKey]
          simp [run_underlying ht]
        simp [run_underlying hu, KTy.val, h3.1, h3.2, run_part_str (cs := #[.string ⟨k.1.toArray⟩, .string ⟨k.2.toArray⟩]) (off := f.offset) (v := .string ⟨k.1.toArray⟩) tf (by rw [of]; rfl), run_part_str (cs := #[.string ⟨k.1.toArray⟩, .string ⟨k.2.toArray⟩]) (off := g.offset) (v := .string ⟨k.2.toArray⟩) tg (by rw [og]; rfl), c1 _ _ _ tf, c1 _ _ _ tg]
      · simp [Instr.sameBits, KTy.val, ba_beq]
      · have ask : ∀ (l : List (KTy.T .p × α)) (es : List MapEntry) (i0 : Nat), es.length = l.length → (∀ (i : Nat) k' v e, l[i]? = some (k', v) → es[i]? = some e → e.key = KTy.val .p k') →
            (mget .p l k = none ∧ (∀ w, (Instr.findAsking kt (KTy.val .p k) es i0).run B.P w = .ok none w) ∧ (∀ a, mset .p l k a = l ++ [(k, a)]) ∧ mdel .p l k = l) ∨
            ∃ j v e, l[j]? = some (k, v) ∧ mget .p l k = some v ∧ es[j]? = some e ∧ (∀ w, (Instr.findAsking kt (KTy.val .p k) es i0).run B.P w = .ok (some (i0 + j, e.val)) w) ∧ (∀ a, mset .p l k a = l.set j (k, a)) ∧ mdel .p l k = l.eraseIdx j := by
          intro l
          induction l with
          | nil =>
            intro es i0 hl _
            have : es = [] := List.length_eq_zero_iff.1 hl
            subst this
            exact .inl ⟨rfl, fun w => rfl, fun a => rfl, rfl⟩
          | cons x l ih =>
            intro es i0 hl hk
            obtain ⟨k', v⟩ := x
            match es, hl with
            | e :: es, hl =>
              have h0 := hk 0 k' v e rfl rfl
              have hstep : ∀ w, (Instr.findAsking kt (KTy.val .p k) (e :: es) i0).run B.P w = (if (KTy.beq .p k k') = true then (pure (some (i0, e.val)) : Sem _) else Instr.findAsking kt (KTy.val .p k) es (i0 + 1)).run B.P w := by
                intro w
                rw [Instr.findAsking, h0]
                simp only [Sem.run_bind, heq, Result.andThen_ok]
                rfl
              cases hb : KTy.beq .p k k' with
              | true =>
                obtain rfl := (kbeq_iff (κ := .p) k k').1 hb
                exact .inr ⟨0, v, e, rfl, by simp [mget, hb], rfl, fun w => by rw [hstep, hb, if_pos rfl]; rfl, fun a => by simp [mset, hb], by simp [mdel, hb]⟩
              | false =>
                rcases ih es (i0 + 1) (by simpa using hl) (fun i k1 v1 e1 q1 q2 => hk (i + 1) k1 v1 e1 (by simpa using q1) (by simpa using q2)) with ⟨a1, a2, a3, a4⟩ | ⟨j, v1, e1, a1, a2, a3, a4, a5, a6⟩
                · exact .inl ⟨by simp [mget, hb, a1], fun w => by rw [hstep, hb, if_neg (by simp)]; exact a2 w, fun a => by simp [mset, hb, a3], by simp [mdel, hb, a4]⟩
                · exact .inr ⟨j + 1, v1, e1, by simpa using a1, by simp [mget, hb, a2], by simpa using a3, fun w => by rw [hstep, hb, if_neg (by simp), a4, Nat.add_assoc, Nat.add_comm 1 j], fun a => by simp [mset, hb, a5], by simp [mdel, hb, a6]⟩
        have hfk : ∀ w, (Instr.findKey kt (KTy.val .p k) es).run B.P w = (Instr.findAsking kt (KTy.val .p k) es 0).run B.P w := by
          intro w
          unfold Instr.findKey
          simp only [Sem.run_bind, run_underlying hu, Result.andThen_ok]
          cases es with
          | nil => rfl
          | cons e es => rfl
        rcases ask l es 0 hl hk with ⟨a1, a2, a3⟩ | ⟨j, v, e, a1, a2, a3, a4, a5⟩
        · exact .inl ⟨a1, fun w => by rw [hfk, a2], a3⟩
        · exact .inr ⟨j, v, e, a1, a2, a3, fun w => by rw [hfk, a4, Nat.zero_add], a5⟩
    · cases h
  · obtain ⟨d, hu, hd⟩ := keyTyOk_spec hp h
    refine ⟨fun b k w => run_checkKey hu hd b k w, fun k => sameBits_self hd k, fun {α} k l es hl hk => ?_⟩
    rcases find_sound hd k l es 0 hl hk with ⟨a1, a2, a3⟩ | ⟨j, v, e, a1, a2, a3, a4, a5, a6⟩
    · exact .inl ⟨a1, fun w => run_findKey hu a2 w, a3, mdel_none a1⟩
    · refine .inr ⟨j, v, e, a1, a2, a3, fun w => by rw [run_findKey hu a4 w, Nat.zero_add], a5, a6⟩

theorem zero1K_sound {P : Program} {t : TypeId} {K : SV → Prop} (h : zero1K P t K) :
    ∃ sv z, K sv ∧ sv.okIds (fun _ => false) = true ∧ (∀ w, (zeroValue t).run P w = .ok z w) ∧ ∀ r β, Rel r β sv z := by
  unfold zero1K at h
  split at h
  · rename_i i hi
    split at h
    · rename_i z hz
      obtain ⟨sv, hk, hid, hr⟩ := constK_sound h
      exact ⟨sv, z, hk, hid, fun w => by simp [zeroValue, typeInfo, hi, hz], hr⟩
    · exact h.elim
  · exact h.elim

theorem oneK_sound {l : List SV} {K : SV → Prop} (h : oneK l K) : ∃ sv, l = [sv] ∧ K sv := by
  unfold oneK at h
  split at h
  · exact ⟨_, rfl, h⟩
  · exact h.elim
theorem enc_pure : ∀ (τ : Ty) (x : τ.T) (j : Nat) (sv : SV), (τ.enc x)[j]? = some sv → sv.okIds (fun _ => false) = true := by
  intro τ
  induction τ with
  | pr a b iha ihb =>
    intro x j sv h
    simp only [Ty.enc] at h
    rw [List.getElem?_append] at h
    split at h
    · exact iha _ _ _ h
    · exact ihb _ _ _ h
  | _ => intro x j sv h; cases j <;> simp [Ty.enc] at h; subst h; rfl

theorem evLookup_sound {B : Base} {Φ t x i ok} {K : SV → Prop} (h : evLookup B Φ t x i ok K) :
    ∃ sv, K sv ∧ ∀ r β vx vi, Rel r β x vx → Rel r β i vi → ∀ w, MemSat r β Φ w → ∃ v, Rel r β sv v ∧ (Instr.lookup t vx vi ok).run B.P w = .ok v w := by
  unfold evLookup at h
  split at h
  · rename_i kt e id hu
    split at h
    · rename_i κ τ l hg
      cases hko : keyTyOk B kt κ with
      | false => rw [hko] at h; exact h.elim
      | true =>
        rw [hko] at h
        have hK := keyTyOk_ok hko
        obtain ⟨k, h, hkey⟩ := decKeyK_sound h
        obtain ⟨z, zv, h, _, hzrun, hzrel⟩ := zero1K_sound h
        obtain ⟨dv, h, hent⟩ := dec1K_sound h
        obtain ⟨sv, hsv, h⟩ := oneK_sound h
        have main : ∀ r β vx vi, Rel r β (.mref id) vx → Rel r β i vi → ∀ w, MemSat r β Φ w → ∃ v, Rel r β sv v ∧ (Instr.lookup t vx vi ok).run B.P w = .ok (bif ok then .tuple #[v, .bool (mget κ l k).isSome] else v) w := by
          intro r β vx vi hx hi w m
          obtain rfl := hkey _ _ _ hi
          cases hx with
          | mref hβ =>
          rename_i b
          have hs := m.chs _ _ hg
          cases hs with
          | mp hxb hw hl hk hv hb hn =>
          rename_i b' es clock
          rw [hβ] at hxb
          obtain rfl : b = b' := by simpa using hxb
          rcases hK.find k l es.toList (by simpa using hl) (fun i k' v e q1 q2 => hk i k' v e q1 (by simpa using q2)) with ⟨a1, a2, a3, _⟩ | ⟨j, v, e1, a1, a2, a3, a4, a5, _⟩
          · rw [a1] at hsv
            have hsv : τ.enc dv = [sv] := hsv
            rw [hsv] at hent
            refine ⟨zv, (hent.2 0 z sv rfl rfl).1 _ _ _ (hzrel r β), ?_⟩
            simp only [Instr.lookup, Sem.run_bind, run_underlying hu, Result.andThen_ok, Go.MapKept.run_getObj_map hw, Sem.run_pure, hK.check, a2, hzrun, a1]
            cases ok <;> rfl
          · rw [a2] at hsv
            have hsv : τ.enc v = [sv] := hsv
            obtain ⟨sv', p1, p2, p3⟩ := hv j k v e1 a1 (by simpa using a3)
            rw [hsv] at p1
            obtain rfl : sv = sv' := by simpa using p1
            refine ⟨e1.val, p3.pure (enc_pure τ v 0 sv (by rw [hsv]; rfl)) β, ?_⟩
            simp only [Instr.lookup, Sem.run_bind, run_underlying hu, Result.andThen_ok, Go.MapKept.run_getObj_map hw, Sem.run_pure, hK.check, a4, a2]
            cases ok <;> rfl
        cases ok with
        | false =>
          refine ⟨sv, h, fun r β vx vi hx hi w m => ?_⟩
          obtain ⟨v, h1, h2⟩ := main r β vx vi hx hi w m
          exact ⟨v, h1, h2⟩
        | true =>
          refine ⟨_, h, fun r β vx vi hx hi w m => ?_⟩
          obtain ⟨v, h1, h2⟩ := main r β vx vi hx hi w m
          refine ⟨.tuple #[v, .bool (mget κ l k).isSome], .tup (cs := [v, .bool (mget κ l k).isSome]) rfl (fun i sv v h3 h4 => ?_), h2⟩
          match i with
          | 0 => simp at h3 h4; subst h3; subst h4; exact h1
          | 1 => simp at h3 h4; subst h3; subst h4; exact .bool
          | i + 2 => simp at h3
    · exact h.elim
  · exact h.elim
end Go.Vc

namespace Go.Vc
set_option autoImplicit false
set_option linter.unusedVariables false
set_option linter.unusedSimpArgs false

/-- the rows of a new block that does not change any more -/
theorem new_lits {P : Program} {e : TypeId} {ln : Nat} {rows : List (List SV)} {us : Array Value} {r : Mem} {β : Bind} {b0 : Nat} (h1 : rows.length = ln) (hrow : ∀ (i : Nat) row, rows[i]? = some row → row.length = sizeT P e) (hsz : sizeT P e ≠ 0) (hble : ln * sizeT P e ≤ 16777216)
    (hone : ∀ (i : Nat) row (j : Nat) sv, rows[i]? = some row → row[j]? = some sv → sv.one = true ∧ sv.okIds (fun _ => false) = true) (hus : us.size = ln * sizeT P e)
    (hrel : ∀ (i : Nat) row (j : Nat) sv v, rows[i]? = some row → row[j]? = some sv → us[i * sizeT P e + j]? = some v → Rel r β0 sv v) (hb : r b0 = some (.cells us e (0, 0))) :
    Rel r β (.lits (sizeT P e) rows) (.slice (some ⟨b0, 0, none⟩) ln ln) := by
  by_cases hl0 : ln = 0
  · subst hl0
    have : rows = [] := List.length_eq_zero_iff.1 h1
    subst this
    exact .litsE
  · have hle : ln ≤ ln * sizeT P e := Nat.le_mul_of_pos_right ln (by omega)
    have := Rel.lits (r := r) (β := β) (sz := sizeT P e) (rows := rows) (b := b0) (off := 0) (cap := ln) hb (by rw [h1]; omega) (by omega) hrow (fun i row j sv q1 q2 => (hone i row j sv q1 q2).1)
      (by rw [h1, hus]; omega) (fun i row j sv v q1 q2 q3 => hrel i row j sv v q1 q2 (by rw [Nat.zero_add] at q3; exact q3))
    rw [h1] at this
    exact this

theorem buildRdK_sound {B : Base} {σ ctx t ln parts} {K : SV → Prop} (h : buildRdK B σ ctx t ln parts K) :
    ∃ sv, K sv ∧ ∀ p r β (a : Act) g Φ w, (∀ y ∈ parts, Has p y.2) → Sm p r β σ a.tmps ctx g → MemSat r β Φ w →
      ∃ v w', (Instr.buildSlice t ln (parts.map fun (i, x) => (i, a.eval x)).toArray).run B.P w = .ok v w' ∧ Quiet r β Φ w sv v w' := by
  unfold buildRdK at h
  split at h
  · rename_i e ht
    have go : ∀ {K : List (List SV) → Prop}, rowsOfK B.P σ ctx e ln parts K → ∃ rows, K rows ∧ ∀ p r β (a : Act) g Φ w, (∀ y ∈ parts, Has p y.2) → Sm p r β σ a.tmps ctx g → MemSat r β Φ w →
        ∃ v w', (Instr.buildSlice t ln (parts.map fun (i, x) => (i, a.eval x)).toArray).run B.P w = .ok v w' ∧ Quiet r β Φ w (.lits (sizeT B.P e) rows) v w' := by
      intro K h
      obtain ⟨rows, hk, h1, h2, h3, h4, h5, h6⟩ := rowsOfK_sound h
      refine ⟨rows, hk, fun p r β a g Φ w hP sm m => ?_⟩
      obtain ⟨us, hus, hrun, hrel⟩ := h6 p r β a g hP sm
      obtain ⟨hle, hm, hid⟩ := mem_grow m (.cells us e)
      refine ⟨_, _, hrun t w ht, _, ?_, hle, hm, hid⟩
      exact new_lits h1 h2 h3 h4 h5 hus (fun i row j sv v q1 q2 q3 => (hrel i row j sv v q1 q2 q3).mono hle) (by simp [Nat.beq_refl])
    split at h
    · rename_i τ hty
      cases hz : szOk B.P e τ.size with
      | false => rw [hz] at h; exact h.elim
      | true =>
        rw [hz] at h
        obtain ⟨rows, h, hq⟩ := go h
        obtain ⟨l, hk, hl⟩ := decRowsK_sound (fun _ _ h => decK_sound h) h
        refine ⟨_, hk, fun p r β a g Φ w hP sm m => ?_⟩
        obtain ⟨v, w', g1, r', g2, g3⟩ := hq p r β a g Φ w hP sm m
        exact ⟨v, w', g1, r', hl.lits (szOk_spec hz).1 g2, g3⟩
    · obtain ⟨rows, hk, hq⟩ := go h
      exact ⟨_, hk, hq⟩
  · exact h.elim

/-- an operation that touches no memory: one value, in whatever world -/
theorem evK_float {B : Base} {Φ σ ctx g ung op} {K : SV → Prop} (hfl : floats op = true) (h : evK B Φ σ ctx g ung op K) :
    ∃ sv, K sv ∧ ∀ p r β a, (∀ x ∈ op.operands.toList, Has p x) → Sm p r β σ (Act.tmps a) ctx g → ∀ dst ty pos after guard, ∃ v, Rel r β sv v ∧ ∀ w, (execOp a.eval ⟨dst, op, ty, pos, after, guard⟩).run B.P w = .ok (.value v) w := by
  unfold evK at h
  split at h
  · -- move
    obtain ⟨sv, hk, hr⟩ := opK_sound h
    exact ⟨sv, hk, fun p r β a hP sm dst ty pos after guard => ⟨_, hr p r β a g (hP _ (by simp [Op.operands])) sm, fun w => rfl⟩⟩
  · obtain ⟨sv, hk, hr⟩ := opK_sound h
    exact ⟨sv, hk, fun p r β a hP sm dst ty pos after guard => ⟨_, hr p r β a g (hP _ (by simp [Op.operands])) sm, fun w => rfl⟩⟩
  · -- pick
    obtain ⟨sv, hk, hr⟩ := evPick_sound h
    refine ⟨sv, hk, fun p r β a hP sm dst ty pos after guard => ?_⟩
    obtain ⟨v, hv, hw⟩ := hr p r β a g (hP _ (by simp [Op.operands])) (hP _ (by simp [Op.operands])) (hP _ (by simp [Op.operands])) sm
    exact ⟨v, hv, fun w => hw _ _ _ _ _ _ _⟩
  · -- binOp
    rename_i op t x y t'
    obtain ⟨sx, h, hx⟩ := opK_sound h
    obtain ⟨sy, h, hy⟩ := opK_sound h
    obtain ⟨sv, hk, hr⟩ := evBinB_sound h
    refine ⟨sv, hk, fun p r β a hP sm dst ty pos after guard => ?_⟩
    have hpx := hP x (by simp [Op.operands])
    have hpy := hP y (by simp [Op.operands])
    obtain ⟨hgd, v, hv, hw⟩ := hr sm.valid r β _ _ (hx p r β a g hpx sm) (hy p r β a g hpy sm)
    refine ⟨v, hv, fun w => ?_⟩
    simp only [execOp, Sem.run_bind, hgd x y w, Result.andThen_ok, hw w, Sem.run_pure]
  · -- unOp
    obtain ⟨sx, h, hx⟩ := opK_sound h
    obtain ⟨sv, hk, hr⟩ := evUn_sound (P := B.P) h
    refine ⟨sv, hk, fun p r β a hP sm dst ty pos after guard => ?_⟩
    obtain ⟨v, hv, hw⟩ := hr sm.valid r β _ (hx p r β a g (hP _ (by simp [Op.operands])) sm)
    exact ⟨v, hv, fun w => by simp only [execOp, Sem.run_bind, hw w, Result.andThen_ok, Sem.run_pure]⟩
  · -- convert
    obtain ⟨sx, h, hx⟩ := opK_sound h
    obtain ⟨sv, hk, hr⟩ := evConv_sound (P := B.P) h
    refine ⟨sv, hk, fun p r β a hP sm dst ty pos after guard => ?_⟩
    obtain ⟨v, hv, hw⟩ := hr sm.valid r β _ (hx p r β a g (hP _ (by simp [Op.operands])) sm)
    exact ⟨v, hv, fun w => by simp only [execOp, Sem.run_bind, hw w, Result.andThen_ok, Sem.run_pure]⟩
  · -- index
    obtain ⟨sx, h, hx⟩ := opK_sound h
    obtain ⟨si, h, hi⟩ := opK_sound h
    obtain ⟨sv, hk, hr⟩ := evIndex_sound h
    refine ⟨sv, hk, fun p r β a hP sm dst ty pos after guard => ?_⟩
    obtain ⟨v, hv, hw⟩ := hr sm.valid r β _ _ (hx p r β a g (hP _ (by simp [Op.operands])) sm) (hi p r β a g (hP _ (by simp [Op.operands])) sm)
    exact ⟨v, hv, fun w => by simp only [execOp, Sem.run_bind, hw w, Result.andThen_ok, Sem.run_pure]⟩
  · -- slice
    rename_i t x lo hi
    obtain ⟨sx, h, hx⟩ := opK_sound h
    obtain ⟨slo, h, hlo⟩ := loK_sound h
    obtain ⟨shi, h, hhi⟩ := loK_sound h
    obtain ⟨sv, hk, hr⟩ := evSlice_sound h
    refine ⟨sv, hk, fun p r β a hP sm dst ty pos after guard => ?_⟩
    have conv : ∀ (x : Option Operand) (y : Option Int), OptEv a x y → OptIs y (x.map a.eval) := by
      intro x y h; cases x <;> cases y <;> first | exact h | trivial
    obtain ⟨v, hv, hw⟩ := hr sm.valid r β _ _ _ (hx p r β a g (hP _ (by simp [Op.operands])) sm) (conv _ _ (hlo p r β a g (fun o ho => hP _ (by simp [Op.operands, ho])) sm)) (conv _ _ (hhi p r β a g (fun o ho => hP _ (by simp [Op.operands, ho])) sm))
    exact ⟨v, hv, fun w => by simp only [execOp, Option.map_none, Sem.run_bind, hw w, Result.andThen_ok, Sem.run_pure]⟩
  · -- field
    obtain ⟨sx, h, hx⟩ := opK_sound h
    obtain ⟨sv, hk, hr⟩ := evField_sound h
    refine ⟨sv, hk, fun p r β a hP sm dst ty pos after guard => ?_⟩
    obtain ⟨v, hv, hw⟩ := hr r β _ (hx p r β a g (hP _ (by simp [Op.operands])) sm)
    exact ⟨v, hv, fun w => by simp only [execOp, Sem.run_bind, hw w, Result.andThen_ok, Sem.run_pure]⟩
  · cases hfl
  · -- fieldAddr
    obtain ⟨sx, h, hx⟩ := opK_sound h
    obtain ⟨sv, hk, hr⟩ := evFieldAddr_sound h
    refine ⟨sv, hk, fun p r β a hP sm dst ty pos after guard => ?_⟩
    obtain ⟨v, hv, hw⟩ := hr r β _ (hx p r β a g (hP _ (by simp [Op.operands])) sm)
    exact ⟨v, hv, fun w => by simp only [execOp, Sem.run_bind, hw w, Result.andThen_ok, Sem.run_pure]⟩
  · cases hfl
  · -- extract
    rename_i x i
    obtain ⟨sx, h, hx⟩ := opK_sound h
    cases sx <;> simp only at h
    rename_i l
    split at h
    · rename_i sv hn
      rw [nth_eq] at hn
      refine ⟨sv, h, fun p r β a hP sm dst ty pos after guard => ?_⟩
      have hv := hx p r β a g (hP _ (by simp [Op.operands])) sm
      generalize hq : a.eval x = v at hv
      cases hv with
      | tup hl hr =>
        rename_i cs
        have hlt : i < cs.length := by
          rcases Nat.lt_or_ge i l.length with h | h
          · omega
          · rw [List.getElem?_eq_none h] at hn; cases hn
        have hc : cs[i]? = some cs[i] := List.getElem?_eq_getElem hlt
        refine ⟨cs[i], hr _ _ _ hn hc, fun w => ?_⟩
        simp [execOp, hq, Instr.extract, hlt]
    · exact h.elim
  · cases hfl
  · cases hfl
  · cases hfl
  · cases hfl
  · -- nilCheck
    rename_i x
    obtain ⟨sx, h, hx⟩ := opK_sound h
    unfold evNil at h
    split at h
    · refine ⟨_, h, fun p r β a hP sm dst ty pos after guard => ?_⟩
      have hv := hx p r β a g (hP _ (by simp [Op.operands])) sm
      refine ⟨_, hv, fun w => ?_⟩
      generalize hq : a.eval x = v at hv
      cases hv
      simp only [execOp, hq]; rfl
    · refine ⟨_, h, fun p r β a hP sm dst ty pos after guard => ?_⟩
      have hv := hx p r β a g (hP _ (by simp [Op.operands])) sm
      refine ⟨_, hv, fun w => ?_⟩
      generalize hq : a.eval x = v at hv
      cases hv
      simp only [execOp, hq]; rfl
    · refine ⟨_, h, fun p r β a hP sm dst ty pos after guard => ?_⟩
      have hv := hx p r β a g (hP _ (by simp [Op.operands])) sm
      refine ⟨_, hv, fun w => ?_⟩
      generalize hq : a.eval x = v at hv
      cases hv
      simp only [execOp, hq]; rfl
    · exact h.elim
  · cases hfl
  · cases hfl
  · exact h.elim

theorem evK_sound {B : Base} {Φ σ ctx g ung op} {K : SV → Prop} (h : evK B Φ σ ctx g ung op K)
    (hp : ung = true → ∃ p r β a w, (∀ x ∈ op.operands.toList, Has p x) ∧ Sm p r β σ (Act.tmps a) ctx g ∧ MemSat r β Φ w) :
    ∃ sv, K sv ∧ (∀ c, op ≠ .defer c) ∧ ∀ p r β a w0, (∀ x ∈ op.operands.toList, Has p x) → Sm p r β σ (Act.tmps a) ctx g → B.G r → MemSat r β Φ w0 → ∀ dst ty pos after guard, OpTo B.P a w0 ⟨dst, op, ty, pos, after, guard⟩ (Quiet r β Φ w0 sv) := by
  cases hfl : floats op with
  | true =>
    obtain ⟨sv, hk, hr⟩ := evK_float hfl h
    refine ⟨sv, hk, (fun c hc => by subst hc; cases hfl), fun p r β a w0 hP sm hG m dst ty pos after guard => ?_⟩
    obtain ⟨v, hv, hw⟩ := hr p r β a hP sm dst ty pos after guard
    exact .val v w0 (hw w0) (Quiet.same m hv)
  | false =>
  unfold evK at h
  split at h
  · cases hfl
  · cases hfl
  · cases hfl
  · cases hfl
  · cases hfl
  · cases hfl
  · cases hfl
  · cases hfl
  · cases hfl
  · -- load
    obtain ⟨sx, h, hx⟩ := opK_sound h
    obtain ⟨sv, hk, hr⟩ := evLoad_sound h
    refine ⟨sv, hk, (fun c hc => by cases hc), fun p r β a w0 hP sm hG m dst ty pos after guard => ?_⟩
    obtain ⟨v, hv, hw⟩ := hr sm.valid r β _ (hx p r β a g (hP _ (by simp [Op.operands])) sm) w0 m
    exact .val v w0 (by simp only [execOp, Sem.run_bind, hw w0 (Near.refl m), Result.andThen_ok, Sem.run_pure]) (Quiet.same m hv)
  · cases hfl
  · -- indexAddr
    obtain ⟨sx, h, hx⟩ := opK_sound h
    obtain ⟨si, h, hi⟩ := opK_sound h
    obtain ⟨sv, hk, hr⟩ := evIndexAddr_sound h
    refine ⟨sv, hk, (fun c hc => by cases hc), fun p r β a w0 hP sm hG m dst ty pos after guard => ?_⟩
    obtain ⟨v, hv, hw⟩ := hr sm.valid r β _ _ (hx p r β a g (hP _ (by simp [Op.operands])) sm) (hi p r β a g (hP _ (by simp [Op.operands])) sm) w0 m
    exact .val v w0 (by simp only [execOp, Sem.run_bind, hw w0, Result.andThen_ok, Sem.run_pure]) (Quiet.same m hv)
  · cases hfl
  · -- build
    rename_i t parts
    obtain ⟨sv, hk, hr⟩ := evBuild_sound h
    refine ⟨sv, hk, (fun c hc => by cases hc), fun p r β a w0 hP sm hG m dst ty pos after guard => ?_⟩
    obtain ⟨v, hv, hw⟩ := hr p r β a g (fun y hy => hP _ (by simp only [Op.operands]; exact List.mem_map.2 ⟨y, hy, rfl⟩)) sm
    refine .val v w0 ?_ (Quiet.same m hv)
    have : (Array.map (fun (x : Nat × Operand) => (x.1, a.eval x.2)) ⟨parts⟩) = (parts.map fun (i, x) => (i, a.eval x)).toArray := by simp
    simp only [execOp, Sem.run_bind]
    rw [this, hw w0]; rfl
  · -- makeFunc
    rename_i f caps
    obtain ⟨l, hk, h1, h2⟩ := opsK_sound h
    refine ⟨_, hk, (fun c hc => by cases hc), fun p r β a w0 hP sm hG m dst ty pos after guard => ?_⟩
    have hl := evalL h1 (h2 p r β a g (fun x hx => hP _ (by simpa [Op.operands] using hx)) sm)
    refine .val (.func (.func f) #[] (caps.map a.eval).toArray) w0 ?_ (Quiet.same m (.fn hl.1 hl.2))
    simp [execOp, Instr.makeFunc]
  · -- builtin
    rename_i b xs ts
    have hops : ∀ x, x ∈ xs → x ∈ (Op.operands (.call ⟨.builtin b, ⟨xs⟩, ⟨ts⟩⟩)).toList := fun x hx => by simp [Op.operands, Call.operands, hx]
    obtain ⟨l, h, h1, h2⟩ := opsK_sound h
    obtain ⟨sv, hk, hr⟩ := evBuiltin_sound h (fun hu => by
      obtain ⟨p, r, β, a, w, hP, sm, m⟩ := hp hu
      exact ⟨r, β, xs.map a.eval, w, evalL h1 (h2 p r β a g (fun x hx => hP _ (hops x hx)) sm), m⟩)
    refine ⟨sv, hk, (fun c hc => by cases hc), fun p r β a w0 hP sm hG m dst ty pos after guard => ?_⟩
    obtain ⟨v, hv, hw⟩ := hr r β _ (evalL h1 (h2 p r β a g (fun x hx => hP _ (hops x hx)) sm))
    refine .val v w0 ?_ (Quiet.same m hv)
    have := hw w0 ty (Array.map (fun | .const _ => true | _ => false) (⟨xs⟩ : Array Operand)) m
    simp only [execOp, resolve, Sem.run_bind, Sem.run_pure, Result.andThen_ok, invoke]
    rw [show Array.map a.eval ⟨xs⟩ = (xs.map a.eval).toArray by simp]
    exact this
  · -- a call
    rename_i f xs ts
    have hops : ∀ x, x ∈ xs → x ∈ (Op.operands (.call ⟨.value f, ⟨xs⟩, ts⟩)).toList := fun x hx => by simp [Op.operands, Call.operands, hx]
    have hopf : f ∈ (Op.operands (.call ⟨.value f, ⟨xs⟩, ts⟩)).toList := by simp [Op.operands, Call.operands]
    obtain ⟨fv, h, hf⟩ := opK_sound h
    cases fv <;> simp only at h
    rename_i fid caps
    obtain ⟨l, h, h1, h2⟩ := opsK_sound h
    have h := appK_sound h
    obtain ⟨sv, hk, hr⟩ := call_sound h
    refine ⟨sv, hk, (fun c hc => by cases hc), fun p r β a w0 hP sm hG m dst ty pos after guard => ?_⟩
    have hfv := hf p r β a g (hP _ hopf) sm
    generalize hq : a.eval f = v at hfv
    cases hfv with
    | fn hl hc =>
      rename_i cs
      refine hr sm.valid r β w0 (xs.map a.eval ++ cs) a _ hG m ((evalL h1 (h2 p r β a g (fun x hx => hP _ (hops x hx)) sm)).append ⟨hl, hc⟩) fun w => ?_
      simp only [execOp, resolve, hq, Deferred.ofValue, Sem.run_bind, Sem.run_pure, Result.andThen_ok, invoke]
      congr 2
      simp
  · cases hfl
  · -- lookup
    obtain ⟨sx, h, hx⟩ := opK_sound h
    obtain ⟨si, h, hi⟩ := opK_sound h
    obtain ⟨sv, hk, hr⟩ := evLookup_sound h
    refine ⟨sv, hk, (fun c hc => by cases hc), fun p r β a w0 hP sm hG m dst ty pos after guard => ?_⟩
    obtain ⟨v, hv, hw⟩ := hr r β _ _ (hx p r β a g (hP _ (by simp [Op.operands])) sm) (hi p r β a g (hP _ (by simp [Op.operands])) sm) w0 m
    exact .val v w0 (by simp only [execOp, Sem.run_bind, hw, Result.andThen_ok, Sem.run_pure]) (Quiet.same m hv)
  · -- a slice, written out
    rename_i t ln parts
    obtain ⟨sv, hk, hr⟩ := buildRdK_sound h
    refine ⟨sv, hk, (fun c hc => by cases hc), fun p r β a w0 hP sm hG m dst ty pos after guard => ?_⟩
    obtain ⟨v, w', h1, h2⟩ := hr p r β a g Φ w0 (fun y hy => hP _ (by simp only [Op.operands]; exact List.mem_map.2 ⟨y, hy, rfl⟩)) sm m
    refine .val v w' ?_ h2
    have : (Array.map (fun (x : Nat × Operand) => (x.1, a.eval x.2)) ⟨parts⟩) = (parts.map fun (i, x) => (i, a.eval x)).toArray := by simp
    simp only [execOp, Sem.run_bind]
    rw [this, h1]; rfl
  · exact h.elim

end Go.Vc

namespace Go.Vc
set_option autoImplicit false
set_option linter.unusedVariables false

/-- the headers that never turn, have not -/
def Keep (β : Bind) (Φ : Phi) (β' : Bind) (Φ' : Phi) : Prop := ∀ id ch, Phi.get Φ id = some ch → ch.kind ≠ 0 → β' id = β id ∧ ∃ ch', Phi.get Φ' id = some ch' ∧ ch'.kind = ch.kind
theorem Keep.refl (β Φ) : Keep β Φ β Φ := fun _ ch h _ => ⟨rfl, ch, h, rfl⟩
theorem Keep.trans {β Φ β' Φ' β2 Φ2} (h : Keep β Φ β' Φ') (k : Keep β' Φ' β2 Φ2) : Keep β Φ β2 Φ2 := fun id ch h0 hk => by
  obtain ⟨q1, ch1, q2, q3⟩ := h id ch h0 hk
  obtain ⟨p1, ch2, p2, p3⟩ := k id ch1 q2 (by rw [q3]; exact hk)
  exact ⟨p1.trans q1, ch2, p2, p3.trans q3⟩
/-- the marks among a frame's deferred calls, and their blocks -/
def Marks (r : Mem) (β : Bind) (Φ : Phi) (w : World) (lo : Nat → Prop) (ds : List Deferred) : Prop :=
  ∃ Ds : List Nat, ds = Ds.map (fun D => { target := .collected D, args := #[] }) ∧ Ds.Nodup ∧
    ∀ D ∈ Ds, lo D ∧ w.heap[D]? = some (.deferred (some [])) ∧ r D = none ∧ ∀ id ch, Phi.get Φ id = some ch → ch.blk (β id) ≠ some D
theorem Marks.step {r β Φ w lo ds r' β' Φ' w'} (h : Marks r β Φ w lo ds) (hid : Hid r β Φ w r' β' Φ' w') : Marks r' β' Φ' w' lo ds := by
  obtain ⟨Ds, h1, h2, h3⟩ := h
  refine ⟨Ds, h1, h2, fun D hD => ?_⟩
  obtain ⟨g1, g2, g3, g4⟩ := h3 D hD
  obtain ⟨k1, k2, k3⟩ := hid.block D (lt_of_get g2) g3 g4
  exact ⟨g1, k1.trans g2, k2, k3⟩

/-- where a function was entered -/
structure Entry where
  r : Mem
  S : Nat → Prop
  lo : Nat → Prop
  β : Bind
  Φ : Phi
  w : World
/-- what was known, and what was out of reach, is so still -/
structure Kept (e : Entry) (r : Mem) (β : Bind) (Φ : Phi) (w : World) : Prop where
  le : e.r.le r
  os : w.os = e.w.os
  tape : w.tape = e.w.tape
  output : w.output = e.w.output
  size : e.w.heap.size ≤ w.heap.size
  block : ∀ b, e.S b → w.heap[b]? = e.w.heap[b]? ∧ r b = none ∧ (∀ id ch, Phi.get Φ id = some ch → ch.blk (β id) ≠ some b)
  keep : ∀ id ch, Phi.get e.Φ id = some ch → ch.kind ≠ 0 → β id = e.β id ∧ ∃ ch', Phi.get Φ id = some ch' ∧ ch'.kind = ch.kind
  slt : ∀ b, e.S b → b < e.w.heap.size
theorem Kept.step {e r β Φ w r' β' Φ' w'} (h : Kept e r β Φ w) (hle : r.le r') (hid : Hid r β Φ w r' β' Φ' w') : Kept e r' β' Φ' w' :=
  ⟨Mem.le_trans h.le hle, hid.os.trans h.os, hid.tape.trans h.tape, hid.output.trans h.output, Nat.le_trans h.size hid.size, fun b hb => by
    obtain ⟨h1, h2, h3⟩ := h.block b hb
    obtain ⟨k1, k2, k3⟩ := hid.block b (Nat.lt_of_lt_of_le (h.slt b hb) h.size) h2 h3
    exact ⟨k1.trans h1, k2, k3⟩, fun id ch h0 hk => by
    obtain ⟨q1, ch1, q2, q3⟩ := h.keep id ch h0 hk
    obtain ⟨p1, ch2, p2, p3⟩ := hid.keep id ch1 q2 (by rw [q3]; exact hk)
    exact ⟨p1.trans q1, ch2, p2, p3.trans q3⟩, h.slt⟩
/-- the blocks out of reach -/
def hidS (r : Mem) (β : Bind) (Φ : Phi) (w : World) (b : Nat) : Prop := b < w.heap.size ∧ r b = none ∧ ∀ id ch, Phi.get Φ id = some ch → ch.blk (β id) ≠ some b
def Entry.of (r : Mem) (β : Bind) (Φ : Phi) (w : World) : Entry := ⟨r, hidS r β Φ w, fun D => w.heap.size ≤ D, β, Φ, w⟩
theorem Kept.refl (r β Φ w) : Kept (Entry.of r β Φ w) r β Φ w :=
  ⟨Mem.le_refl r, rfl, rfl, rfl, Nat.le_refl _, fun b hb => ⟨rfl, hb.2.1, hb.2.2⟩, fun id ch h _ => ⟨rfl, ch, h, rfl⟩, fun b hb => hb.1⟩
theorem Kept.hid {r β Φ w r' β' Φ' w'} (h : Kept (Entry.of r β Φ w) r' β' Φ' w') : Hid r β Φ w r' β' Φ' w' :=
  ⟨h.os, h.tape, h.output, h.size, fun b h1 h2 h3 => h.block b ⟨h1, h2, h3⟩, h.keep⟩

structure Sat (B : Base) (e : Entry) (N : Nat) (r : Mem) (β : Bind) (σ : Env) (Φ : Phi) (a : Act) (w : World) : Prop where
  agree : Agree r β σ a.tmps
  mem : MemSat r β Φ w
  G : B.G r
  kept : Kept e r β Φ w
  defers : Marks r β Φ w e.lo a.defers
  size : a.tmps.size = N
/-- a step that turns no slot -/
theorem Sat.step {B : Base} {e N r β σ Φ a w} (s : Sat B e N r β σ Φ a w) {r' β' σ' Φ' w'} (ha : Agree r' β' σ' a.tmps) (m : MemSat r' β' Φ' w') (hle : r.le r') (hid : Hid r β Φ w r' β' Φ' w') : Sat B e N r' β' σ' Φ' a w' :=
  ⟨ha, m, B.mono _ _ hle s.G, s.kept.step hle hid, s.defers.step hid, s.size⟩

theorem put_some (a : Act) (d : Nat) (v : Value) : (a.put (some d) v).tmps = a.tmps.setIfInBounds d v := rfl
theorem put_defers (a : Act) (d : Option Nat) (v : Value) : (a.put d v).defers = a.defers := by cases d <;> rfl
theorem put_size (a : Act) (d : Option Nat) (v : Value) : (a.put d v).tmps.size = a.tmps.size := by cases d <;> simp [Act.put]

theorem get_cons (k : Nat) (g sv) (σ : Env) (j : Nat) : Env.get ((k, g, sv) :: σ) j = bif Nat.beq k j then some (g, sv) else Env.get σ j := rfl

/-- the guards' slots are among these -/
def GdIn (D : List Nat) (σ : Env) : Prop := ∀ k s w sv, Env.get σ k = some (some (s, w), sv) → s ∈ D

theorem Agree.put {r β σ t D} (h : Agree r β σ t) (hgd : GdIn D σ) {d : Nat} {gd : Option (Nat × Bool)} {sv : SV} {v : Value} (hd : d ∉ D) (hlt : d < t.size)
    (hv : match gd with | none => Rel r β sv v | some (s, w) => s ≠ d ∧ (t[s]? = some (.bool w) → Rel r β sv v) ∧ (t[s]? ≠ some (.bool w) → v = undef)) :
    Agree r β ((d, gd, sv) :: σ) (t.setIfInBounds d v) := by
  have self : (t.setIfInBounds d v)[d]? = some v := by rw [Array.getElem?_setIfInBounds_self_of_lt hlt]
  have other : ∀ k, k ≠ d → (t.setIfInBounds d v)[k]? = t[k]? := fun k hk => Array.getElem?_setIfInBounds_ne (Ne.symm hk)
  intro k g sv' hg
  rw [get_cons] at hg
  cases hb : Nat.beq d k with
  | true =>
    obtain rfl := beq_of hb
    rw [hb] at hg
    simp only [cond_true, Option.some.injEq, Prod.mk.injEq] at hg
    obtain ⟨rfl, rfl⟩ := hg
    cases gd with
    | none => exact ⟨v, self, hv⟩
    | some p =>
      obtain ⟨s, w⟩ := p
      obtain ⟨h1, h2, h3⟩ := hv
      refine ⟨fun hs => ⟨v, self, h2 (by rw [← other s h1]; exact hs)⟩, fun hs => ?_⟩
      rw [self, h3 (by rw [← other s h1]; exact hs)]
  | false =>
    rw [hb] at hg
    simp only [cond_false] at hg
    have hk : k ≠ d := by
      rintro rfl
      have : Nat.beq k k = true := Nat.beq_refl k
      rw [this] at hb; cases hb
    have := h k g sv' hg
    cases g with
    | none => obtain ⟨u, h1, h2⟩ := this; exact ⟨u, by rw [other k hk]; exact h1, h2⟩
    | some p =>
      obtain ⟨s, w⟩ := p
      have hs : s ≠ d := by rintro rfl; exact hd (hgd _ _ _ _ hg)
      simp only [EntSat, other k hk, other s hs] at this ⊢
      exact this

theorem Agree.none {r β σ t} (h : Agree r β σ t) {t' : Array Value} (ht : t' = t) : Agree r β σ t' := by subst ht; exact h

theorem GdIn.put {D σ d gd sv} (h : GdIn D σ) (hg : ∀ s w, gd = some (s, w) → s ∈ D) (d' : List Nat) : GdIn (D ++ d') ((d, gd, sv) :: σ) := by
  intro k s w sv' hk
  rw [get_cons] at hk
  cases hb : Nat.beq d k with
  | true =>
    rw [hb] at hk
    simp only [cond_true, Option.some.injEq, Prod.mk.injEq] at hk
    exact List.mem_append.2 (.inl (hg _ _ hk.1))
  | false => rw [hb] at hk; exact List.mem_append.2 (.inl (h _ _ _ _ hk))
theorem GdIn.more {D σ} (h : GdIn D σ) (d : List Nat) : GdIn (D ++ d) σ := fun k s w sv hk => List.mem_append.2 (.inl (h k s w sv hk))

def dsts (l : List Oper) : List Nat := l.filterMap (·.dst)

theorem freshE_get {n : Nat} {σ : Env} (h : freshE n σ = true) (k : Nat) (g sv) (hg : Env.get σ k = some (g, sv)) : sv.okIds (fun i => !Nat.beq i n) = true := by
  induction σ with
  | nil => simp [Env.get] at hg
  | cons x r ih =>
    obtain ⟨k', g', sv'⟩ := x
    simp only [freshE, Bool.and_eq_true] at h
    rw [get_cons] at hg
    cases hb : Nat.beq k' k with
    | true => rw [hb] at hg; simp at hg; rw [← hg.2]; exact h.1
    | false => rw [hb] at hg; exact ih h.2 hg
theorem phi_cons (k : Nat) (c : Chunk) (Φ : Phi) (j : Nat) : Phi.get ((k, c) :: Φ) j = bif Nat.beq k j then some c else Phi.get Φ j := rfl
theorem freshP_get {n : Nat} {Φ : Phi} (h : freshP n Φ = true) (k : Nat) (ch) (hg : Phi.get Φ k = some ch) : k ≠ n ∧ freshC n ch = true := by
  induction Φ with
  | nil => simp [Phi.get] at hg
  | cons x r ih =>
    obtain ⟨k', c'⟩ := x
    simp only [freshP, Bool.and_eq_true] at h
    rw [phi_cons] at hg
    cases hb : Nat.beq k' k with
    | true =>
      rw [hb] at hg
      simp at hg
      subst hg
      obtain rfl := beq_of hb
      refine ⟨?_, h.2.1⟩
      rintro rfl
      rw [Nat.beq_refl] at h
      simp at h
    | false => rw [hb] at hg; exact ih h.2.2 hg

def setB (β : Bind) (n : Nat) (v : Value) : Bind := fun i => bif Nat.beq i n then v else β i
theorem setB_self (β n v) : setB β n v n = v := by simp [setB]
theorem setB_ne {β : Bind} {n : Nat} {v : Value} {i : Nat} (h : i ≠ n) : setB β n v i = β i := by simp [setB, nbeq_of h]
theorem setB_ok {β : Bind} {n : Nat} {v : Value} (i : Nat) (h : (!Nat.beq i n) = true) : setB β n v i = β i := by
  refine setB_ne ?_
  rintro rfl
  rw [Nat.beq_refl] at h; cases h

theorem heap_alloc_lt {w : World} {o : Obj} {b : Nat} (h : b < w.heap.size) : ({ w with heap := w.heap.push o } : World).heap[b]? = w.heap[b]? := by
  show (w.heap.push o)[b]? = _
  rw [Array.getElem?_push, if_neg (by omega)]
theorem heap_alloc_eq {w : World} {o : Obj} : ({ w with heap := w.heap.push o } : World).heap[w.heap.size]? = some o := by
  show (w.heap.push o)[w.heap.size]? = _
  simp
theorem lt_of_heap {w : World} {b : Nat} {o : Obj} (h : w.heap[b]? = some o) : b < w.heap.size := lt_of_get h

/-- nothing that was there has turned -/
structure Grows (w w' : World) : Prop where
  os : w'.os = w.os
  tape : w'.tape = w.tape
  output : w'.output = w.output
  size : w.heap.size ≤ w'.heap.size
  old : ∀ b, b < w.heap.size → w'.heap[b]? = w.heap[b]?

theorem Grows.alloc (w : World) (o : Obj) : Grows w { w with heap := w.heap.push o } :=
  ⟨rfl, rfl, rfl, by show w.heap.size ≤ (w.heap.push o).size; simp, fun b hb => heap_alloc_lt hb⟩

theorem Agree.of {r r' β β' σ σ' t} (h : Agree r β σ t) (hσ : ∀ k g sv', Env.get σ' k = some (g, sv') → ∃ sv, Env.get σ k = some (g, sv) ∧ ∀ v, Rel r β sv v → Rel r' β' sv' v) : Agree r' β' σ' t := by
  intro k g sv' hg
  obtain ⟨sv, q1, q2⟩ := hσ k g sv' hg
  have := h k g sv q1
  cases g with
  | none => obtain ⟨u, p1, p2⟩ := this; exact ⟨u, p1, q2 u p2⟩
  | some p => obtain ⟨s', w''⟩ := p; exact ⟨fun hs => by obtain ⟨u, p1, p2⟩ := this.1 hs; exact ⟨u, p1, q2 u p2⟩, this.2⟩

/-- a new chunk, bound to a new id -/
theorem mem_new {r β Φ w} {n : Nat} {ch : Chunk} {v : Value} {w' : World} (m : MemSat r β Φ w) (hΦ : freshP n Φ = true)
    (hg : Grows w w') (hblk : ∀ b, ch.blk v = some b → w.heap.size ≤ b) (hch : ch.Sat r (setB β n v) w' v) : MemSat r (setB β n v) ((n, ch) :: Φ) w' ∧ Hid r β Φ w r (setB β n v) ((n, ch) :: Φ) w' := by
  have old : ∀ id c, Phi.get Φ id = some c → setB β n v id = β id := fun id c h => setB_ne (freshP_get hΦ id c h).1
  have alive : ∀ id c b, Phi.get Φ id = some c → c.blk (β id) = some b → b < w.heap.size := fun id c b h1 h2 => (m.chs _ _ h1).alive h2
  have get : ∀ id c, Phi.get ((n, ch) :: Φ) id = some c → (id = n ∧ c = ch) ∨ (id ≠ n ∧ Phi.get Φ id = some c) := by
    intro id c h
    rw [phi_cons] at h
    cases hb : Nat.beq n id with
    | true => obtain rfl := beq_of hb; rw [hb] at h; simp at h; exact .inl ⟨rfl, h.symm⟩
    | false => rw [hb] at h; exact .inr ⟨(fun he => by (subst he; rw [Nat.beq_refl] at hb; cases hb)), h⟩
  refine ⟨⟨fun b o' h => ?_, fun id c h => ?_, fun id c b h1 h2 => ?_, fun id id' c c' b h1 h1' h2 h2' => ?_⟩,
    hg.os, hg.tape, hg.output, hg.size, fun b hb h1 h2 => ⟨hg.old _ hb, h1, fun id c h hc => ?_⟩, fun id c h _ => ⟨old id c h, c, ?_, rfl⟩⟩
  · have := m.vis _ _ h
    rw [hg.old _ (lt_of_heap this)]; exact this
  · rcases get id c h with ⟨rfl, rfl⟩ | ⟨_, h⟩
    · rw [setB_self]; exact hch
    · rw [old id c h]
      refine (m.chs _ _ h).keep (Mem.le_refl r) (fun b hb => hg.old _ (alive _ _ _ h hb)) (fun _ cells he i sv v hi hr => ?_)
      have := (freshP_get hΦ id c h).2
      subst he
      exact hr.bind (p := fun i => !Nat.beq i n) (fun i hi => setB_ok i hi) (SV.okIdsL_get this i sv hi)
  · rcases get id c h1 with ⟨rfl, rfl⟩ | ⟨_, h⟩
    · rw [setB_self] at h2
      have := hblk _ h2
      cases hr : r b with
      | none => rfl
      | some o' => exact absurd (lt_of_heap (m.vis _ _ hr)) (by omega)
    · rw [old id c h] at h2; exact m.sep _ _ _ h h2
  · rcases get id c h1 with ⟨rfl, rfl⟩ | ⟨_, h⟩ <;> rcases get id' c' h1' with ⟨rfl, rfl⟩ | ⟨_, h'⟩
    · rfl
    · rw [setB_self] at h2; rw [old id' c' h'] at h2'
      have := hblk _ h2
      exact absurd (alive _ _ _ h' h2') (by omega)
    · rw [setB_self] at h2'; rw [old id c h] at h2
      have := hblk _ h2'
      exact absurd (alive _ _ _ h h2) (by omega)
    · rw [old id c h] at h2; rw [old id' c' h'] at h2'
      exact m.nod _ _ _ _ _ h h' h2 h2'
  · rcases get id c h with ⟨rfl, rfl⟩ | ⟨_, h⟩
    · rw [setB_self] at hc; have := hblk _ hc; omega
    · rw [old id c h] at hc; exact h2 id c h hc
  · rw [phi_cons]
    cases hb : Nat.beq n id with
    | true => obtain rfl := beq_of hb; exact absurd rfl (freshP_get hΦ n _ h).1
    | false => exact h

theorem sat_new {B : Base} {e N r β σ Φ a w} {n : Nat} {ch : Chunk} {v : Value} {w' : World} (s : Sat B e N r β σ Φ a w) (hσ : freshE n σ = true) (hΦ : freshP n Φ = true)
    (hg : Grows w w') (hblk : ∀ b, ch.blk v = some b → w.heap.size ≤ b) (hch : ch.Sat r (setB β n v) w' v) : Sat B e N r (setB β n v) σ ((n, ch) :: Φ) a w' := by
  obtain ⟨h1, h2⟩ := mem_new s.mem hΦ hg hblk hch
  refine s.step (s.agree.of fun k g sv hk => ⟨sv, hk, fun v hr => hr.bind (p := fun i => !Nat.beq i n) (fun i hi => setB_ok i hi) (freshE_get hσ k g sv hk)⟩) h1 (Mem.le_refl r) h2

theorem newK_sound {B : Base} {e N r β σ Φ a w n To cs} {K : EK} (h : newK n To cs σ Φ K) (s : Sat B e N r β σ Φ a w) (T : TypeId) (hT : ∀ t, To = some t → T = t) (vs : Array Value) (hl : RelL r β cs vs.toList) :
    ∃ sv σ' Φ' n', K sv σ' Φ' n' ∧ σ' = σ ∧ ∃ β', Rel r β' sv (.pointer (some ⟨w.heap.size, 0, none⟩)) ∧ Sat B e N r β' σ' Φ' a { w with heap := w.heap.push (.cells vs T) } := by
  unfold newK at h
  cases hc : (freshE n σ && (freshP n Φ && SV.okIdsL (fun i => !Nat.beq i n) cs)) with
  | false => rw [hc] at h; exact h.elim
  | true =>
    rw [hc] at h
    simp only [Bool.and_eq_true] at hc
    obtain ⟨h1, h2, h3⟩ := hc
    refine ⟨_, _, _, _, h, rfl, setB β n (.pointer (some ⟨w.heap.size, 0, none⟩)), .loc (setB_self _ _ _), ?_⟩
    refine sat_new s h1 h2 (Grows.alloc w _) (fun b hb => by simp [Chunk.blk] at hb; omega) ?_
    refine .box rfl heap_alloc_eq (by simpa using hl.1) (fun i sv v q1 q2 => ?_) hT
    exact (hl.2 i sv v q1 (by simpa using q2)).bind (p := fun i => !Nat.beq i n) (fun i hi => setB_ok i hi) (SV.okIdsL_get h3 i sv q1)

theorem newChK_sound {B : Base} {e N r β σ Φ a w n ch sv} {K : EK} (h : newChK n ch sv σ Φ K) (s : Sat B e N r β σ Φ a w) {v : Value} {w' : World} (hg : Grows w w')
    (hblk : ∀ b, ch.blk v = some b → w.heap.size ≤ b) (hch : ch.Sat r (setB β n v) w' v) (hr : Rel r (setB β n v) sv v) :
    ∃ sv σ' Φ' n', K sv σ' Φ' n' ∧ σ' = σ ∧ ∃ β', Rel r β' sv v ∧ Sat B e N r β' σ' Φ' a w' := by
  unfold newChK at h
  cases hc : (freshE n σ && freshP n Φ) with
  | false => rw [hc] at h; exact h.elim
  | true =>
    rw [hc] at h
    simp only [Bool.and_eq_true] at hc
    exact ⟨_, _, _, _, h, rfl, _, hr, sat_new s hc.1 hc.2 hg hblk hch⟩

end Go.Vc
